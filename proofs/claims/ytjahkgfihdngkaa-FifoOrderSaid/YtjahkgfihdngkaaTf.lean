/- This text of a proof shows: what Drop and New of a tree come to. -/
import Derived.Test.YtjahkgfihdngkaaGg
import Derived.Test.YtjahkgfihdngkaaTe
set_option linter.unusedVariables false
set_option linter.unusedSimpArgs false
set_option linter.constructorNameAsVariable false
namespace Go.Proofs.Ytjahkgfihdngkaa.IR
open Go Go.Proofs.Ytjahkgfihdngkaa.Ev Go.Proofs.Ytjahkgfihdngkaa.Ev.Rb
set_option linter.unusedSimpArgs false
set_option linter.unusedVariables false
set_option maxHeartbeats 4000000
attribute [local go_sem] skipV nc0 nc1 nc2 nc3 bne_self_eq_false decide_true decide_false IOp.step Opd.ev Env.get initEnv Val.cells? Val.one List.all_cons List.all_nil Bool.and_true Bool.and_self Bool.true_and bin ints eqv Val.kindNo lenNo_s lenNo_nils lenNo_sl lenNo_nilm lenNo_m lenOf_s lenOf_nils lenOf_sl lenOf_nilm unary partsOf padTo List.foldl_cons List.foldl_nil wr_nil wr_step wr_zero List.set_cons_zero List.set_cons_succ List.map_cons List.map_nil z1 z2 Nat.succ_ne_zero List.length_cons List.length_nil List.cons_append List.nil_append List.append_nil List.getElem?_cons_zero List.getElem?_cons_succ List.getElem?_nil Option.map_some Option.map_none Nat.zero_add Nat.add_zero List.drop_zero List.drop_succ_cons List.take_succ_cons List.take_zero List.take_nil and_self and_true true_and Nat.le_refl Bool.not_true Bool.not_false Option.getD_some window Val.slen bnd resV resL RV.val Bool.false_eq_true BEq.rfl Bool.true_beq Bool.false_beq beq_true beq_false mk_one ite_true ite_false eqc ceqs ceq NOp.step isK eq_self
attribute [local go_sem] encF_length
attribute [local go_sem] nat_toNat wr_one Nat.mul_one dv_dn dv_0 dv_2 dv_f dv_t dv_not setK_root setUp_root setRed_root
theorem get_K0 {f : Nat → Nd} {n i : Nat} (h : i < n) : (encF f n)[i * 7 + 3]? = some (.i .i64 (kid f i false : Nat)) := get_k0 h
theorem get_K1 {f : Nat → Nd} {n i : Nat} (h : i < n) : (encF f n)[i * 7 + 3 + 1]? = some (.i .i64 (kid f i true : Nat)) := get_k1 h
def dropV (k : Int × Int) (L : List (Int × Int × Int)) : Val := match L.find? (fun y => decide (ekey y = k)) with
  | some y => .tup [.i .i64 y.2.2, .b true]
  | none => .tup [.i .i64 0, .b false]
def DrInv (t : TS) (s : Rb) (z r : Nat) (v : Int) (c : Bool) (n : Nat) (ρ : Env) (H : Heap) : Prop :=
  ∃ x : Nat, x < t.len ∧ minF n s.f x = some r ∧ AnewS 1 (tH t s) [(0, .p 0 0), (6, .i .i64 (z : Nat)), (8, .i .i64 v), (9, .b c), (10, .i .i64 0), (11, .i .i64 (x : Nat))] ρ H
theorem drop_c (t : TS) (L : List (Int × Int × Int)) (h : TR t L) (k : Int × Int) :
    SoundM Try.prog 1 32 [.p 0 0, .agg [.i .u64 k.1, .i .u64 k.2]] (tH t t.s) (TPost t (dropV k L) (del k L)) := by
  refine sound_told (sound_func Try.func32 c32 rfl (by simp [tH]) ?_)
  have bd := h.bd
  simp only [e32, tH, TS.cells]
  refine GG0 ?_
  (first | ((with_reducible first | apply RunP.call | apply Run.call | apply Run.call0); iterate 2 (· (simp only [go_sem, reduceIte, Nat.reduceEqDiff]; (try with_reducible exact rfl)))) | ((with_reducible first | apply Run.callY | apply RunP.callY); iterate 3 (· (simp only [go_sem, reduceIte, Nat.reduceEqDiff]; (try with_reducible exact rfl)))))
  refine sound_use (tno_c t t.s) [0, 1, 2] rfl (by decide) ?_ ?_ ?_ ?_ ?_; iterate 4 (· simp [-List.map_map, embAt, nm, rn_rw, rn_ro, rn_map, rn_iter, rn_dead, renL, Val.ren, wfAll, wn_rw, wn_ro, wn_map, wn_iter, wn_dead, wfL, Val.wf, Env.get, initEnv, tH, TS.cells, encF_ren, encF_wf, fv_ren, fv_wf, fobj_ren, fobj_wf, setUp_root, setK_root, setRed_root])
  rintro v C' ⟨rfl, rfl⟩
  simp only [merge, place, after, nm, MG, Val.ren, renL, rn_rw, rn_ro, rn_map, rn_iter, rn_dead, reduceIte, Nat.reduceLT, Nat.reduceAdd, Nat.reduceSub, Nat.lt_irrefl, Nat.zero_lt_one, Nat.zero_lt_succ, tH, TS.cells, encF_ren, encF_wf, fv_ren, fv_wf, fobj_ren, fobj_wf, setUp_root, setK_root, setRed_root]
  refine GG0 ?_
  rcases h.find k with ⟨m, x, a, b, hf, hx, hxl, hL, hk⟩ | ⟨m, last, hf, hk⟩
  · (first | ((with_reducible first | apply RunP.call | apply Run.call | apply Run.call0); iterate 2 (· (simp only [go_sem, reduceIte, Nat.reduceEqDiff]; (try with_reducible exact rfl)))) | ((with_reducible first | apply Run.callY | apply RunP.callY); iterate 3 (· (simp only [go_sem, reduceIte, Nat.reduceEqDiff]; (try with_reducible exact rfl)))))
    refine sound_use (find_c t t.s k _ m bd hf) [0, 1, 2] rfl (by decide) ?_ ?_ ?_ ?_ ?_; iterate 4 (· simp [-List.map_map, embAt, nm, rn_rw, rn_ro, rn_map, rn_iter, rn_dead, renL, Val.ren, wfAll, wn_rw, wn_ro, wn_map, wn_iter, wn_dead, wfL, Val.wf, Env.get, initEnv, tH, TS.cells, encF_ren, encF_wf, fv_ren, fv_wf, fobj_ren, fobj_wf, setUp_root, setK_root, setRed_root])
    rintro v C' ⟨rfl, rfl⟩
    simp only [merge, place, after, nm, MG, Val.ren, renL, rn_rw, rn_ro, rn_map, rn_iter, rn_dead, reduceIte, Nat.reduceLT, Nat.reduceAdd, Nat.reduceSub, Nat.lt_irrefl, Nat.zero_lt_one, Nat.zero_lt_succ, tH, TS.cells, encF_ren, encF_wf, fv_ren, fv_wf, fobj_ren, fobj_wf, setUp_root, setK_root, setRed_root]
    have hb : (((x : Nat) : Int) == 0) = false := by simpa using hx
    have hV : dropV k L = .tup [.i .i64 (t.s.f x).e.2.2, .b true] := by
      unfold dropV
      have hs := h.sorted
      rw [hL] at hs ⊢
      simp only [Sorted, List.pairwise_append, List.pairwise_cons] at hs
      have ha : a.find? (fun y => decide (ekey y = k)) = none := by
        rw [List.find?_eq_none]
        intro y hy
        have := hs.2.2 y hy (t.s.f x).e (by simp)
        simp only [decide_eq_true_eq]
        intro e; rw [e, hk] at this; exact klt_irrefl _ this
      rw [List.find?_append, ha]
      simp [hk]
    rw [hV]
    obtain ⟨my, y, hmin, hyl, n, s2, hlf, hT⟩ := h.drop hf hx
    have hkl := bd.kid hxl false
    have hkr := bd.kid hxl true
    have bc := bd.cut hxl hyl
    (have g0 := hb; have g1 := fun qf => get_v (f := qf) hxl; have g2 := fun qf => get_red (f := qf) hxl; have g3 := fun qf => get_K0 (f := qf) hxl; refine GG4 ?_; clear g0 g1 g2 g3)
    -- taken out
    refine ei_midB (M := AnewS 1 (tH t (cut t.s x y).1) [(0, .p 0 0), (6, .i .i64 (x : Nat)), (8, .i .i64 (t.s.f x).e.2.2), (9, .b (cut t.s x y).2.1), (10, .i .i64 ((cut t.s x y).2.2 : Nat))]) ?_ (fun ρ' H' ha => ei_anewS ha ?_)
    · by_cases c1 : kid t.s.f x false = 0
      · have ec : cut t.s x y = (hang t.s (kid t.s.f x true) x, (t.s.f x).red, kid t.s.f x true) := by simp only [cut]; rw [if_pos c1]
        have hb1 : (((kid t.s.f x false : Nat) : Int) == 0) = true := by simp [c1]
        rw [ec]
        (have g0 := hb1; have g1 := fun qf => get_K1 (f := qf) hxl; refine GG2 ?_; clear g0 g1)
        (first | ((with_reducible first | apply RunP.call | apply Run.call | apply Run.call0); iterate 2 (· (simp only [go_sem, reduceIte, Nat.reduceEqDiff]; (try with_reducible exact rfl)))) | ((with_reducible first | apply Run.callY | apply RunP.callY); iterate 3 (· (simp only [go_sem, reduceIte, Nat.reduceEqDiff]; (try with_reducible exact rfl)))))
        refine sound_use (hang_c t t.s _ x bd hkr hxl) [0, 1, 2] rfl (by decide) ?_ ?_ ?_ ?_ ?_; iterate 4 (· simp [-List.map_map, embAt, nm, rn_rw, rn_ro, rn_map, rn_iter, rn_dead, renL, Val.ren, wfAll, wn_rw, wn_ro, wn_map, wn_iter, wn_dead, wfL, Val.wf, Env.get, initEnv, tH, TS.cells, encF_ren, encF_wf, fv_ren, fv_wf, fobj_ren, fobj_wf, setUp_root, setK_root, setRed_root])
        rintro v C' ⟨rfl, rfl⟩
        simp only [merge, place, after, nm, MG, Val.ren, renL, rn_rw, rn_ro, rn_map, rn_iter, rn_dead, reduceIte, Nat.reduceLT, Nat.reduceAdd, Nat.reduceSub, Nat.lt_irrefl, Nat.zero_lt_one, Nat.zero_lt_succ, tH, TS.cells, encF_ren, encF_wf, fv_ren, fv_wf, fobj_ren, fobj_wf, setUp_root, setK_root, setRed_root]
        refine GG0 ?_
        (refine anew [0, 1, 2] ?_ (by decide) ?_ ?_ ?_ rfl ?_ ?_ <;> simp [-List.map_map, embAt, nm, rn_rw, rn_ro, rn_map, rn_iter, rn_dead, renL, Val.ren, wfAll, wn_rw, wn_ro, wn_map, wn_iter, wn_dead, wfL, Val.wf, Env.get, initEnv, tH, TS.cells, encF_ren, encF_wf, fv_ren, fv_wf, fobj_ren, fobj_wf, setUp_root, setK_root, setRed_root])
      · have hb1 : (((kid t.s.f x false : Nat) : Int) == 0) = false := by simpa using c1
        (have g0 := hb1; have g1 := fun qf => get_K1 (f := qf) hxl; refine GG2 ?_; clear g0 g1)
        by_cases c2 : kid t.s.f x true = 0
        · have ec : cut t.s x y = (hang t.s (kid t.s.f x false) x, (t.s.f x).red, kid t.s.f x false) := by simp only [cut]; rw [if_neg c1, if_pos c2]
          have hb2 : (((kid t.s.f x true : Nat) : Int) == 0) = true := by simp [c2]
          rw [ec]
          (have g0 := hb2; have g1 := fun qf => get_K0 (f := qf) hxl; refine GG2 ?_; clear g0 g1)
          (first | ((with_reducible first | apply RunP.call | apply Run.call | apply Run.call0); iterate 2 (· (simp only [go_sem, reduceIte, Nat.reduceEqDiff]; (try with_reducible exact rfl)))) | ((with_reducible first | apply Run.callY | apply RunP.callY); iterate 3 (· (simp only [go_sem, reduceIte, Nat.reduceEqDiff]; (try with_reducible exact rfl)))))
          refine sound_use (hang_c t t.s _ x bd hkl hxl) [0, 1, 2] rfl (by decide) ?_ ?_ ?_ ?_ ?_; iterate 4 (· simp [-List.map_map, embAt, nm, rn_rw, rn_ro, rn_map, rn_iter, rn_dead, renL, Val.ren, wfAll, wn_rw, wn_ro, wn_map, wn_iter, wn_dead, wfL, Val.wf, Env.get, initEnv, tH, TS.cells, encF_ren, encF_wf, fv_ren, fv_wf, fobj_ren, fobj_wf, setUp_root, setK_root, setRed_root])
          rintro v C' ⟨rfl, rfl⟩
          simp only [merge, place, after, nm, MG, Val.ren, renL, rn_rw, rn_ro, rn_map, rn_iter, rn_dead, reduceIte, Nat.reduceLT, Nat.reduceAdd, Nat.reduceSub, Nat.lt_irrefl, Nat.zero_lt_one, Nat.zero_lt_succ, tH, TS.cells, encF_ren, encF_wf, fv_ren, fv_wf, fobj_ren, fobj_wf, setUp_root, setK_root, setRed_root]
          refine GG0 ?_
          (refine anew [0, 1, 2] ?_ (by decide) ?_ ?_ ?_ rfl ?_ ?_ <;> simp [-List.map_map, embAt, nm, rn_rw, rn_ro, rn_map, rn_iter, rn_dead, renL, Val.ren, wfAll, wn_rw, wn_ro, wn_map, wn_iter, wn_dead, wfL, Val.wf, Env.get, initEnv, tH, TS.cells, encF_ren, encF_wf, fv_ren, fv_wf, fobj_ren, fobj_wf, setUp_root, setK_root, setRed_root])
        · have hb2 : (((kid t.s.f x true : Nat) : Int) == 0) = false := by simpa using c2
          have hmn := hmin c1 c2
          generalize ecu : cut t.s x y = cu at bc hlf
          simp only [cut] at ecu
          rw [if_neg c1, if_neg c2] at ecu
          (have g0 := hb2; have g1 := fun qf => get_K1 (f := qf) hxl; refine GG2 ?_; clear g0 g1)
          refine ei_loop (DrInv t t.s x y (t.s.f x).e.2.2 (t.s.f x).red) (n := my) ?_ ?_
          · refine ⟨_, hkr, hmn, ?_⟩
            (refine anew [0, 1, 2] ?_ (by decide) ?_ ?_ ?_ rfl ?_ ?_ <;> simp [-List.map_map, embAt, nm, rn_rw, rn_ro, rn_map, rn_iter, rn_dead, renL, Val.ren, wfAll, wn_rw, wn_ro, wn_map, wn_iter, wn_dead, wfL, Val.wf, Env.get, initEnv, tH, TS.cells, encF_ren, encF_wf, fv_ren, fv_wf, fobj_ren, fobj_wf, setUp_root, setK_root, setRed_root])
          · rintro n' ρ H ⟨w, hwl, hf, ha⟩
            refine ei_anewS ha ?_
            clear ha
            cases n' with
            | zero => cases hf
            | succ n' =>
            simp only [minF] at hf
            simp only [tH, TS.cells]
            by_cases hk0 : (t.s.f w).k0 = 0
            · have hb3 : ((((t.s.f w).k0 : Nat) : Int) != 0) = false := by simpa using hk0
              rw [if_pos hk0] at hf
              have hwy : w = y := by simpa using hf
              subst hwy
              have hx2 := bd.kid hwl true
              have hup := bd.up w hwl
              (have g0 := hb3; have g1 := fun qf => get_k0 (f := qf) hwl; have g2 := fun qf => get_red (f := qf) hwl; have g3 := fun qf => get_K1 (f := qf) hwl; have g4 := fun qf => get_up (f := qf) hwl; refine GG5 ?_; clear g0 g1 g2 g3 g4)
              refine ei_mid (M := fun ρ H => ∃ s1, Bnd s1 t.len ∧ s1 = (if (t.s.f w).up = x then setUp t.s (kid t.s.f w true) w else
                  setUp (setK (hang t.s (kid t.s.f w true) w) true w (kid (hang t.s (kid t.s.f w true) w).f x true)) (kid (setK (hang t.s (kid t.s.f w true) w) true w (kid (hang t.s (kid t.s.f w true) w).f x true)).f w true) w) ∧
                  AnewS 1 (tH t s1) [(0, .p 0 0), (6, .i .i64 (x : Nat)), (8, .i .i64 (t.s.f x).e.2.2), (9, .b (t.s.f w).red), (10, .i .i64 (kid t.s.f w true : Nat)), (11, .i .i64 (w : Nat))] ρ H) ?_ ?_
              · by_cases hu : (t.s.f w).up = x
                · have hb4 : ((((t.s.f w).up : Nat) : Int) == ((x : Nat) : Int)) = true := by simp [hu]
                  (have g0 := hb4; have g1 := fun qf q0 => set_up (s := qf) q0 hx2; refine GG2 ?_; clear g0 g1)
                  refine ⟨_, bd.setUp hx2 hwl, by rw [if_pos hu], ?_⟩
                  (refine anew [0, 1, 2] ?_ (by decide) ?_ ?_ ?_ rfl ?_ ?_ <;> simp [-List.map_map, embAt, nm, rn_rw, rn_ro, rn_map, rn_iter, rn_dead, renL, Val.ren, wfAll, wn_rw, wn_ro, wn_map, wn_iter, wn_dead, wfL, Val.wf, Env.get, initEnv, tH, TS.cells, encF_ren, encF_wf, fv_ren, fv_wf, fobj_ren, fobj_wf, setUp_root, setK_root, setRed_root])
                · have hb4 : ((((t.s.f w).up : Nat) : Int) == ((x : Nat) : Int)) = false := by simp; omega
                  have b1 := bd.hang hx2 hwl
                  have hkz := b1.kid hxl true
                  have b2 := b1.setK (d := true) hwl hkz
                  have hky := b2.kid hwl true
                  (have g0 := hb4; refine GG1 ?_; clear g0)
                  (first | ((with_reducible first | apply RunP.call | apply Run.call | apply Run.call0); iterate 2 (· (simp only [go_sem, reduceIte, Nat.reduceEqDiff]; (try with_reducible exact rfl)))) | ((with_reducible first | apply Run.callY | apply RunP.callY); iterate 3 (· (simp only [go_sem, reduceIte, Nat.reduceEqDiff]; (try with_reducible exact rfl)))))
                  refine sound_use (hang_c t t.s _ w bd hx2 hwl) [0, 1, 2] rfl (by decide) ?_ ?_ ?_ ?_ ?_; iterate 4 (· simp [-List.map_map, embAt, nm, rn_rw, rn_ro, rn_map, rn_iter, rn_dead, renL, Val.ren, wfAll, wn_rw, wn_ro, wn_map, wn_iter, wn_dead, wfL, Val.wf, Env.get, initEnv, tH, TS.cells, encF_ren, encF_wf, fv_ren, fv_wf, fobj_ren, fobj_wf, setUp_root, setK_root, setRed_root])
                  rintro v C' ⟨rfl, rfl⟩
                  simp only [merge, place, after, nm, MG, Val.ren, renL, rn_rw, rn_ro, rn_map, rn_iter, rn_dead, reduceIte, Nat.reduceLT, Nat.reduceAdd, Nat.reduceSub, Nat.lt_irrefl, Nat.zero_lt_one, Nat.zero_lt_succ, tH, TS.cells, encF_ren, encF_wf, fv_ren, fv_wf, fobj_ren, fobj_wf, setUp_root, setK_root, setRed_root]
                  have e1 := set_k1 (s := hang t.s (kid t.s.f w true) w) (kid (hang t.s (kid t.s.f w true) w).f x true) hwl
                  (have g0 := fun qf => get_K1 (f := qf) hxl; have g1 := e1; have g2 := fun qf => get_K1 (f := qf) hwl; have g3 := fun qf q0 => set_up (s := qf) q0 hky; refine GG4 ?_; clear g0 g1 g2 g3)
                  refine ⟨_, b2.setUp hky hwl, by rw [if_neg hu], ?_⟩
                  (refine anew [0, 1, 2] ?_ (by decide) ?_ ?_ ?_ rfl ?_ ?_ <;> simp [-List.map_map, embAt, nm, rn_rw, rn_ro, rn_map, rn_iter, rn_dead, renL, Val.ren, wfAll, wn_rw, wn_ro, wn_map, wn_iter, wn_dead, wfL, Val.wf, Env.get, initEnv, tH, TS.cells, encF_ren, encF_wf, fv_ren, fv_wf, fobj_ren, fobj_wf, setUp_root, setK_root, setRed_root])
              · rintro ρ' H' ⟨s1, b1, hs1, ha⟩
                refine ei_anewS ha ?_
                rw [← hs1] at ecu
                have b3 := b1.hang hwl hxl
                have hkz := b3.kid hxl false
                have b4 := b3.setK (d := false) hwl hkz
                have hky := b4.kid hwl false
                have b5 := b4.setUp (v := w) hky hwl
                simp only [tH, TS.cells]
                refine GG0 ?_
                (first | ((with_reducible first | apply RunP.call | apply Run.call | apply Run.call0); iterate 2 (· (simp only [go_sem, reduceIte, Nat.reduceEqDiff]; (try with_reducible exact rfl)))) | ((with_reducible first | apply Run.callY | apply RunP.callY); iterate 3 (· (simp only [go_sem, reduceIte, Nat.reduceEqDiff]; (try with_reducible exact rfl)))))
                refine sound_use (hang_c t s1 w x b1 hwl hxl) [0, 1, 2] rfl (by decide) ?_ ?_ ?_ ?_ ?_; iterate 4 (· simp [-List.map_map, embAt, nm, rn_rw, rn_ro, rn_map, rn_iter, rn_dead, renL, Val.ren, wfAll, wn_rw, wn_ro, wn_map, wn_iter, wn_dead, wfL, Val.wf, Env.get, initEnv, tH, TS.cells, encF_ren, encF_wf, fv_ren, fv_wf, fobj_ren, fobj_wf, setUp_root, setK_root, setRed_root])
                rintro v C' ⟨rfl, rfl⟩
                simp only [merge, place, after, nm, MG, Val.ren, renL, rn_rw, rn_ro, rn_map, rn_iter, rn_dead, reduceIte, Nat.reduceLT, Nat.reduceAdd, Nat.reduceSub, Nat.lt_irrefl, Nat.zero_lt_one, Nat.zero_lt_succ, tH, TS.cells, encF_ren, encF_wf, fv_ren, fv_wf, fobj_ren, fobj_wf, setUp_root, setK_root, setRed_root]
                have e1 := set_k0 (s := hang s1 w x) (kid (hang s1 w x).f x false) hwl
                (have g0 := fun qf => get_K0 (f := qf) hxl; have g1 := e1; have g2 := fun qf => get_K0 (f := qf) hwl; have g3 := fun qf q0 => set_up (s := qf) q0 hky; have g4 := fun qf => get_red (f := qf) hxl; have g5 := fun qf q0 => set_red (s := qf) q0 hwl; refine GG6 ?_; clear g0 g1 g2 g3 g4 g5)
                rw [← ecu]
                (refine anew [0, 1, 2] ?_ (by decide) ?_ ?_ ?_ rfl ?_ ?_ <;> simp [-List.map_map, embAt, nm, rn_rw, rn_ro, rn_map, rn_iter, rn_dead, renL, Val.ren, wfAll, wn_rw, wn_ro, wn_map, wn_iter, wn_dead, wfL, Val.wf, Env.get, initEnv, tH, TS.cells, encF_ren, encF_wf, fv_ren, fv_wf, fobj_ren, fobj_wf, setUp_root, setK_root, setRed_root])
            · have hb3 : ((((t.s.f w).k0 : Nat) : Int) != 0) = true := by simpa using hk0
              rw [if_neg hk0] at hf
              (have g0 := hb3; have g1 := fun qf => get_k0 (f := qf) hwl; refine GG2 ?_; clear g0 g1)
              refine ⟨n', by omega, _, bd.k0 w hwl, hf, ?_⟩
              (refine anew [0, 1, 2] ?_ (by decide) ?_ ?_ ?_ rfl ?_ ?_ <;> simp [-List.map_map, embAt, nm, rn_rw, rn_ro, rn_map, rn_iter, rn_dead, renL, Val.ren, wfAll, wn_rw, wn_ro, wn_map, wn_iter, wn_dead, wfL, Val.wf, Env.get, initEnv, tH, TS.cells, encF_ren, encF_wf, fv_ren, fv_wf, fobj_ren, fobj_wf, setUp_root, setK_root, setRed_root])
    · obtain ⟨b1, b2⟩ := bc
      generalize cut t.s x y = cu at b1 b2 hlf
      obtain ⟨s1, rd, x1⟩ := cu
      simp only at b1 b2 hlf
      simp only [tH, TS.cells]
      refine GG0 ?_
      refine ei_mid (M := AnewS 1 (tH t s2) [(0, .p 0 0), (6, .i .i64 (x : Nat)), (8, .i .i64 (t.s.f x).e.2.2)]) ?_ (fun ρ' H' ha => ei_anewS ha ?_)
      · by_cases hrd : rd = true
        · rw [if_pos hrd] at hlf
          subst hrd; subst hlf
          refine GG0 ?_
          (refine anew [0, 1, 2] ?_ (by decide) ?_ ?_ ?_ rfl ?_ ?_ <;> simp [-List.map_map, embAt, nm, rn_rw, rn_ro, rn_map, rn_iter, rn_dead, renL, Val.ren, wfAll, wn_rw, wn_ro, wn_map, wn_iter, wn_dead, wfL, Val.wf, Env.get, initEnv, tH, TS.cells, encF_ren, encF_wf, fv_ren, fv_wf, fobj_ren, fobj_wf, setUp_root, setK_root, setRed_root])
        · have hrd' : rd = false := by simpa using hrd
          rw [if_neg hrd] at hlf
          subst hrd'
          refine GG0 ?_
          (first | ((with_reducible first | apply RunP.call | apply Run.call | apply Run.call0); iterate 2 (· (simp only [go_sem, reduceIte, Nat.reduceEqDiff]; (try with_reducible exact rfl)))) | ((with_reducible first | apply Run.callY | apply RunP.callY); iterate 3 (· (simp only [go_sem, reduceIte, Nat.reduceEqDiff]; (try with_reducible exact rfl)))))
          refine sound_use (lift_c t s1 s2 x1 n b1 b2 hlf) [0, 1, 2] rfl (by decide) ?_ ?_ ?_ ?_ ?_; iterate 4 (· simp [-List.map_map, embAt, nm, rn_rw, rn_ro, rn_map, rn_iter, rn_dead, renL, Val.ren, wfAll, wn_rw, wn_ro, wn_map, wn_iter, wn_dead, wfL, Val.wf, Env.get, initEnv, tH, TS.cells, encF_ren, encF_wf, fv_ren, fv_wf, fobj_ren, fobj_wf, setUp_root, setK_root, setRed_root])
          rintro v C' ⟨rfl, rfl⟩
          simp only [merge, place, after, nm, MG, Val.ren, renL, rn_rw, rn_ro, rn_map, rn_iter, rn_dead, reduceIte, Nat.reduceLT, Nat.reduceAdd, Nat.reduceSub, Nat.lt_irrefl, Nat.zero_lt_one, Nat.zero_lt_succ, tH, TS.cells, encF_ren, encF_wf, fv_ren, fv_wf, fobj_ren, fobj_wf, setUp_root, setK_root, setRed_root]
          refine GG0 ?_
          (refine anew [0, 1, 2] ?_ (by decide) ?_ ?_ ?_ rfl ?_ ?_ <;> simp [-List.map_map, embAt, nm, rn_rw, rn_ro, rn_map, rn_iter, rn_dead, renL, Val.ren, wfAll, wn_rw, wn_ro, wn_map, wn_iter, wn_dead, wfL, Val.wf, Env.get, initEnv, tH, TS.cells, encF_ren, encF_wf, fv_ren, fv_wf, fobj_ren, fobj_wf, setUp_root, setK_root, setRed_root])
      · have hpos := bd.pos
        have hfn := fg_none h
        have hcapf : t.free.length ≤ 100000 := by
          have := h.cap
          have := h.room
          obtain ⟨T, _, _, _, _, _, hl⟩ := h.ex
          omega
        have hmp : 1 ≤ t.many := by rw [h.many, hL]; simp; omega
        have hml : t.many ≤ 65536 := by have := h.le; have := h.room; omega
        have e9 : encF (fupd s2.f 0 nd0) t.len = encF (setZero s2).f t.len := rfl
        simp only [tH, TS.cells, fv_g, fobj_g]
        (have g0 := fun q0 => wr_nd0 q0 hpos; refine GG1 ?_; clear g0)
        (refine Aa ((gApp (sz := 1) (o := fg t) (c := nums t.free) (new := [.i .i64 (x : Nat)]) (id := 2) (j := 3) (n := t.free.length) (by (simp only [go_sem, reduceIte, Nat.reduceEqDiff]; (try with_reducible exact rfl)); all_goals rfl) (by first | rfl | (rw [gO_new]; rfl)) (by first | assumption | simp [nums]) (by first | assumption | exact fun e => absurd e gNew_ne | simp_all) (by (simp only [go_sem, reduceIte, Nat.reduceEqDiff]; (try with_reducible exact rfl))) rfl rfl (by omega)).trans (by simp only [List.set_cons_succ, List.set_cons_zero, List.cons_append, List.nil_append, List.length_cons, List.length_nil, Nat.reduceAdd]; exact rfl)) ?_)
        repeat (first
    | ((first | (with_reducible first | apply Aa | apply Ab | apply Ac | apply Ad | apply Ae | apply Af | apply Na | apply Nb) | ((with_reducible first | apply Ag | apply Ah | apply Nc); · (simp only [go_sem, reduceIte, Nat.reduceEqDiff, gV_new]; (try with_reducible exact rfl)))); · (simp only [go_sem, Int.reduceBEq, Int.reduceBNe, Int.reduceLT, Int.reduceLE, Int.reduceAdd, Int.reduceSub, Int.reduceToNat, reduceIte, Nat.reduceEqDiff, Nat.reduceAdd, Nat.reduceMul, Nat.reduceLeDiff, Nat.reduceSub, reduceCtorEq, gV_new]; (try simp (disch := omega) only [OM, mn_lo, mn_hi, mx_lo, mx_hi, if_yes, if_no, Option.map_some, gV_new]); (try with_reducible exact rfl)))
    | ((with_reducible first | apply Ba | apply Bb | apply Bc | apply Bd | apply Be | apply Nd); · (simp only [go_sem, reduceIte, Nat.reduceEqDiff, gV_new]; (try with_reducible exact rfl))) | ((with_reducible first | apply Ca | apply Cb | apply Cc | apply Cd | apply Ce | apply Ne); · (simp only [go_sem, reduceIte, Nat.reduceEqDiff, gV_new]; (try with_reducible exact rfl)))
    | ((with_reducible first | apply Dg | apply Dh); (· decide +kernel); (· (simp only [inOrd, List.getElem?_cons_succ, List.getElem?_cons_zero]; exact rfl)))
    | ((with_reducible first | apply De | apply Df); (· decide +kernel); (· (simp only [inOrd, List.getElem?_cons_succ, List.getElem?_cons_zero]; exact rfl)))
    | (with_reducible first | apply Ea | apply Eb | apply Ec | apply Ed | apply Ee | apply Ef | apply Eg | apply Eh | apply Ei | apply Ej | apply Ek | apply El | apply Em | apply En | apply Eo) | ((with_reducible apply Ep); · rfl))
        have eh : tH (oldT t s2 x) (setZero s2) = [.rw [.sl 1 0 t.len 7, gV gNew 2 (t.free.length + 1) 1, .i .i64 (s2.root : Nat), .i .i64 ((t.many : Nat) - 1), .i .i64 (t.room : Nat)], .rw (encF (fupd s2.f 0 nd0) t.len), gO gNew (nums t.free ++ [.i .i64 (x : Nat)])] := by
          have em : (((t.many - 1 : Nat)) : Int) = (t.many : Nat) - 1 := by omega
          simp only [tH, TS.cells, oldT, TS.fv, TS.fobj, em, gV_new, gO_new, List.length_append, List.length_singleton, nums_app, nums_one]
          simp [setZero, nums]
        refine told [0, 1, 4] (tH (oldT t s2 x) (setZero s2)) (.tup [.i .i64 (t.s.f x).e.2.2, .b true]) ?_ (by decide) ?_ ?_ ?_ rfl ?_ ?_ ?_; iterate 6 (· simp [-List.map_map, embAt, nm, rn_rw, rn_ro, rn_map, rn_iter, rn_dead, renL, Val.ren, wfAll, wn_rw, wn_ro, wn_map, wn_iter, wn_dead, wfL, Val.wf, Env.get, initEnv, eh, encF_ren, encF_wf, gV_new, gOn_ren, gOn_wf, gC_new, nums_snoc])
        exact ⟨rfl, oldT t s2 x, hT, rfl, rfl⟩
  · (first | ((with_reducible first | apply RunP.call | apply Run.call | apply Run.call0); iterate 2 (· (simp only [go_sem, reduceIte, Nat.reduceEqDiff]; (try with_reducible exact rfl)))) | ((with_reducible first | apply Run.callY | apply RunP.callY); iterate 3 (· (simp only [go_sem, reduceIte, Nat.reduceEqDiff]; (try with_reducible exact rfl)))))
    refine sound_use (find_c t t.s k _ m bd hf) [0, 1, 2] rfl (by decide) ?_ ?_ ?_ ?_ ?_; iterate 4 (· simp [-List.map_map, embAt, nm, rn_rw, rn_ro, rn_map, rn_iter, rn_dead, renL, Val.ren, wfAll, wn_rw, wn_ro, wn_map, wn_iter, wn_dead, wfL, Val.wf, Env.get, initEnv, tH, TS.cells, encF_ren, encF_wf, fv_ren, fv_wf, fobj_ren, fobj_wf, setUp_root, setK_root, setRed_root])
    rintro v C' ⟨rfl, rfl⟩
    simp only [merge, place, after, nm, MG, Val.ren, renL, rn_rw, rn_ro, rn_map, rn_iter, rn_dead, reduceIte, Nat.reduceLT, Nat.reduceAdd, Nat.reduceSub, Nat.lt_irrefl, Nat.zero_lt_one, Nat.zero_lt_succ, tH, TS.cells, encF_ren, encF_wf, fv_ren, fv_wf, fobj_ren, fobj_wf, setUp_root, setK_root, setRed_root]
    have hV : dropV k L = .tup [.i .i64 0, .b false] := by
      unfold dropV
      have : L.find? (fun y => decide (ekey y = k)) = none := by
        rw [List.find?_eq_none]; intro y hy; simp [hk y hy]
      rw [this]
    have hD : del k L = L := List.filter_eq_self.2 fun y hy => by simp [hk y hy]
    rw [hV, hD]
    repeat (first
    | ((first | (with_reducible first | apply Aa | apply Ab | apply Ac | apply Ad | apply Ae | apply Af | apply Na | apply Nb) | ((with_reducible first | apply Ag | apply Ah | apply Nc); · (simp only [go_sem, reduceIte, Nat.reduceEqDiff, nc0]; (try with_reducible exact rfl)))); · (simp only [go_sem, Int.reduceBEq, Int.reduceBNe, Int.reduceLT, Int.reduceLE, Int.reduceAdd, Int.reduceSub, Int.reduceToNat, reduceIte, Nat.reduceEqDiff, Nat.reduceAdd, Nat.reduceMul, Nat.reduceLeDiff, Nat.reduceSub, reduceCtorEq, nc0]; (try simp (disch := omega) only [OM, mn_lo, mn_hi, mx_lo, mx_hi, if_yes, if_no, Option.map_some, nc0]); (try with_reducible exact rfl)))
    | ((with_reducible first | apply Ba | apply Bb | apply Bc | apply Bd | apply Be | apply Nd); · (simp only [go_sem, reduceIte, Nat.reduceEqDiff, nc0]; (try with_reducible exact rfl))) | ((with_reducible first | apply Ca | apply Cb | apply Cc | apply Cd | apply Ce | apply Ne); · (simp only [go_sem, reduceIte, Nat.reduceEqDiff, nc0]; (try with_reducible exact rfl)))
    | ((with_reducible first | apply Dg | apply Dh); (· decide +kernel); (· (simp only [inOrd, List.getElem?_cons_succ, List.getElem?_cons_zero]; exact rfl)))
    | ((with_reducible first | apply De | apply Df); (· decide +kernel); (· (simp only [inOrd, List.getElem?_cons_succ, List.getElem?_cons_zero]; exact rfl)))
    | (with_reducible first | apply Ea | apply Eb | apply Ec | apply Ed | apply Ee | apply Ef | apply Eg | apply Eh | apply Ei | apply Ej | apply Ek | apply El | apply Em | apply En | apply Eo) | ((with_reducible apply Ep); · rfl))
    refine told [0, 1, 2] (tH t t.s) (.tup [.i .i64 0, .b false]) ?_ (by decide) ?_ ?_ ?_ rfl ?_ ?_ ?_; iterate 6 (· simp [-List.map_map, embAt, nm, rn_rw, rn_ro, rn_map, rn_iter, rn_dead, renL, Val.ren, wfAll, wn_rw, wn_ro, wn_map, wn_iter, wn_dead, wfL, Val.wf, Env.get, initEnv, tH, TS.cells, encF_ren, encF_wf, fv_ren, fv_wf, fobj_ren, fobj_wf, setUp_root, setK_root, setRed_root])
    exact ⟨rfl, t, h, rfl, rfl⟩
def newTS (room : Nat) : TS := { s := { f := fun _ => nd0, root := 0 }, len := 1, free := [], fo := none, many := 0, room := room }
theorem newTS_rep {room : Nat} (h : 1 ≤ room) (h2 : room ≤ 65536) : TR (newTS room) [] :=
  ⟨⟨.e, ⟨trivial, rfl, fun x => by simp [Rb.cnt, ids]⟩, ⟨rfl, 0, rfl⟩, .nil, rfl, by simp [newTS], rfl⟩, ⟨Nat.one_pos, Nat.one_pos, fun _ _ => Nat.one_pos, fun _ _ => Nat.one_pos, fun _ _ => Nat.one_pos⟩, rfl, by simp [newTS], .nil, fun _ => rfl, rfl, by show 0 ≤ room; omega, h2, by show 1 ≤ room + 1; omega⟩
/-- A new tree, or none. -/
theorem tnew_c (n : Int) : SoundM Try.prog 0 25 [.i .i64 n] [] (fun v H => if n < 1 ∨ n > 65536 then v = .tup [.nilp, .i .i64 2] ∧ H = [] else v = .tup [.p 0 0, .i .i64 0] ∧ H = tH (newTS n.toNat) (newTS n.toNat).s) := by
  refine sound_told (sound_func Try.func25 c25 rfl (by simp) ?_)
  simp only [e25]
  by_cases h1 : n < 1
  · (have g0 := decide_t h1; refine GG1 ?_; clear g0)
    refine told [] [] (.tup [.nilp, .i .i64 2]) ?_ (by decide) ?_ ?_ ?_ rfl ?_ ?_ ?_; iterate 6 (· simp [-List.map_map, embAt, nm, rn_rw, rn_ro, rn_map, rn_iter, rn_dead, renL, Val.ren, wfAll, wn_rw, wn_ro, wn_map, wn_iter, wn_dead, wfL, Val.wf, Env.get, initEnv, Val.ren])
    rw [if_pos (.inl h1)]; exact ⟨rfl, rfl⟩
  · by_cases h2 : n > 65536
    · (have g0 := decide_f h1; have g1 := decide_t h2; refine GG2 ?_; clear g0 g1)
      refine told [] [] (.tup [.nilp, .i .i64 2]) ?_ (by decide) ?_ ?_ ?_ rfl ?_ ?_ ?_; iterate 6 (· simp [-List.map_map, embAt, nm, rn_rw, rn_ro, rn_map, rn_iter, rn_dead, renL, Val.ren, wfAll, wn_rw, wn_ro, wn_map, wn_iter, wn_dead, wfL, Val.wf, Env.get, initEnv, Val.ren])
      rw [if_pos (.inr h2)]; exact ⟨rfl, rfl⟩
    · have en : ((n.toNat : Nat) : Int) = n := by omega
      have eh : tH (newTS n.toNat) (newTS n.toNat).s = [.rw [.sl 1 0 1 7, .nils, .i .i64 0, .i .i64 0, .i .i64 n], .rw [.i .u64 0, .i .u64 0, .i .i64 0, .i .i64 0, .i .i64 0, .i .i64 0, .b false], .dead] := by
        simp only [tH, TS.cells, newTS, TS.fv, TS.fobj, encF, Nd.enc, nd0, en, List.nil_append, nc0]
      refine ei_pad ?_
      (have g0 := decide_f h1; have g1 := decide_f h2; refine GG2 ?_; clear g0 g1)
      have em : Ev.mk [.i .u64 0, .i .u64 0, .i .i64 0, .i .i64 0, .i .i64 0, .i .i64 0, .b false] 1 = [.i .u64 0, .i .u64 0, .i .i64 0, .i .i64 0, .i .i64 0, .i .i64 0, .b false] := rfl
      rw [em]
      refine told [2, 1, 0] (tH (newTS n.toNat) (newTS n.toNat).s) (.tup [.p 0 0, .i .i64 0]) ?_ (by decide) ?_ ?_ ?_ rfl ?_ ?_ ?_; iterate 6 (· simp [-List.map_map, embAt, nm, rn_rw, rn_ro, rn_map, rn_iter, rn_dead, renL, Val.ren, wfAll, wn_rw, wn_ro, wn_map, wn_iter, wn_dead, wfL, Val.wf, Env.get, initEnv, eh])
      rw [if_neg (by omega)]; exact ⟨rfl, rfl⟩
end Go.Proofs.Ytjahkgfihdngkaa.IR
