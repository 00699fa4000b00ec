/- This text of a proof shows: how a tree settles, and is lifted. -/
import Derived.Test.YtjahkgfihdngkaaGg
import Derived.Test.YtjahkgfihdngkaaTa
set_option linter.unusedVariables false
set_option linter.unusedSimpArgs false
set_option linter.constructorNameAsVariable false
namespace Go.Proofs.Ytjahkgfihdngkaa.IR
open Go Go.Proofs.Ytjahkgfihdngkaa.Ev Go.Proofs.Ytjahkgfihdngkaa.Ev.Rb
set_option linter.unusedSimpArgs false
set_option linter.unusedVariables false
set_option maxHeartbeats 4000000
attribute [local go_sem] skipV nc0 nc1 nc2 nc3 bne_self_eq_false decide_true decide_false IOp.step Opd.ev Env.get initEnv Val.cells? Val.one List.all_cons List.all_nil Bool.and_true Bool.and_self Bool.true_and bin ints eqv Val.kindNo lenNo_s lenNo_nils lenNo_sl lenNo_nilm lenNo_m lenOf_s lenOf_nils lenOf_sl lenOf_nilm unary partsOf padTo List.foldl_cons List.foldl_nil wr_nil wr_step wr_zero List.set_cons_zero List.set_cons_succ List.map_cons List.map_nil z1 z2 Nat.succ_ne_zero List.length_cons List.length_nil List.cons_append List.nil_append List.append_nil List.getElem?_cons_zero List.getElem?_cons_succ List.getElem?_nil Option.map_some Option.map_none Nat.zero_add Nat.add_zero List.drop_zero List.drop_succ_cons List.take_succ_cons List.take_zero List.take_nil and_self and_true true_and Nat.le_refl Bool.not_true Bool.not_false Option.getD_some window Val.slen bnd resV resL RV.val Bool.false_eq_true BEq.rfl Bool.true_beq Bool.false_beq beq_true beq_false mk_one ite_true ite_false eqc ceqs ceq NOp.step isK eq_self
attribute [local go_sem] nat_toNat encF_length wr_one Nat.mul_one dv_dn dv_0 dv_2 dv_f dv_t dv_not setK_root setUp_root setRed_root
def SInv (t : TS) (s' : Rb) (n : Nat) (ρ : Env) (H : Heap) : Prop :=
  ∃ (s : Rb) (z : Nat), Bnd s t.len ∧ z < t.len ∧ settleF n s z = some s' ∧ AnewS 3 (tH t s) [(0, .p 0 0), (1, .i .i64 (z : Nat))] ρ H
theorem settle_c (t : TS) (s s' : Rb) (z m : Nat) (bd : Bnd s t.len) (hz : z < t.len) (hf : settleF m s z = some s') : SoundM Try.prog 3 44 [.p 0 0, .i .i64 (z : Nat)] (tH t s) (Lv t s' (.tup [])) := by
  refine sound_told (sound_func Try.func44 c44 rfl (by simp [tH]) ?_)
  simp only [e44]
  refine GG0 ?_
  refine ei_loop (SInv t s') (n := m) ?_ ?_
  · refine ⟨s, z, bd, hz, hf, ?_⟩
    (refine anew [0, 1, 2] ?_ (by decide) ?_ ?_ ?_ rfl ?_ ?_ <;> simp [-List.map_map, embAt, nm, rn_rw, rn_ro, rn_map, rn_iter, rn_dead, renL, Val.ren, wfAll, wn_rw, wn_ro, wn_map, wn_iter, wn_dead, wfL, Val.wf, Env.get, initEnv, tH, TS.cells, encF_ren, encF_wf, fv_ren, fv_wf, fobj_ren, fobj_wf, setUp_root, setK_root, setRed_root])
  · rintro n ρ H ⟨s, z, bd, hz, hf, ha⟩
    refine ei_anewS ha ?_
    clear ha
    cases n with
    | zero => cases hf
    | succ n =>
    have hp := bd.up z hz
    have hg := bd.up _ hp
    have hroot := bd.root
    simp only [settleF] at hf
    simp only [tH, TS.cells]
    by_cases hr : (s.f (s.f z).up).red = true
    · rw [if_pos hr] at hf
      have hu := bd.kid hg (!side s (s.f z).up)
      have hd := dn_le (!side s (s.f z).up)
      have b1 := bd.settle1 hz
      (have g0 := fun qf => get_up (f := qf) hz; have g1 := fun qf => get_red (f := qf) hp; have g2 := hr; have g3 := fun qf => get_up (f := qf) hp; refine GG4 ?_; clear g0 g1 g2 g3)
      (first | ((with_reducible first | apply RunP.call | apply Run.call | apply Run.call0); iterate 2 (· (simp only [go_sem, reduceIte, Nat.reduceEqDiff]; (try with_reducible exact rfl)))) | ((with_reducible first | apply Run.callY | apply RunP.callY); iterate 3 (· (simp only [go_sem, reduceIte, Nat.reduceEqDiff]; (try with_reducible exact rfl)))))
      refine sound_use (side_c t s _ bd hp) [0, 1, 2] rfl (by decide) ?_ ?_ ?_ ?_ ?_; iterate 4 (· simp [-List.map_map, embAt, nm, rn_rw, rn_ro, rn_map, rn_iter, rn_dead, renL, Val.ren, wfAll, wn_rw, wn_ro, wn_map, wn_iter, wn_dead, wfL, Val.wf, Env.get, initEnv, tH, TS.cells, encF_ren, encF_wf, fv_ren, fv_wf, fobj_ren, fobj_wf, setUp_root, setK_root, setRed_root])
      rintro v C' ⟨rfl, rfl⟩
      simp only [merge, place, after, nm, MG, Val.ren, renL, rn_rw, rn_ro, rn_map, rn_iter, rn_dead, reduceIte, Nat.reduceLT, Nat.reduceAdd, Nat.reduceSub, Nat.lt_irrefl, Nat.zero_lt_one, Nat.zero_lt_succ, tH, TS.cells, encF_ren, encF_wf, fv_ren, fv_wf, fobj_ren, fobj_wf, setUp_root, setK_root, setRed_root]
      by_cases hur : (s.f (kid s.f (s.f (s.f z).up).up (!side s (s.f z).up))).red = true
      · have e1 : settle1 s z = (setRed (setRed (setRed s (s.f z).up false) (kid s.f (s.f (s.f z).up).up (!side s (s.f z).up)) false) (s.f (s.f z).up).up true, (s.f (s.f z).up).up) := by
          simp only [settle1]; rw [if_pos hur]
        rw [e1] at hf b1
        (have g0 := fun qf q0 => get_kd (f := qf) q0 hg; have g1 := fun qf => get_red (f := qf) hu; have g2 := hur; have g3 := fun qf q0 => set_red (s := qf) q0 hp; have g4 := fun qf q0 => set_red (s := qf) q0 hu; have g5 := fun qf q0 => set_red (s := qf) q0 hg; refine GG6 ?_; clear g0 g1 g2 g3 g4 g5)
        refine ⟨n, by omega, _, _, b1.1, b1.2, hf, ?_⟩
        (refine anew [0, 1, 2] ?_ (by decide) ?_ ?_ ?_ rfl ?_ ?_ <;> simp [-List.map_map, embAt, nm, rn_rw, rn_ro, rn_map, rn_iter, rn_dead, renL, Val.ren, wfAll, wn_rw, wn_ro, wn_map, wn_iter, wn_dead, wfL, Val.wf, Env.get, initEnv, tH, TS.cells, encF_ren, encF_wf, fv_ren, fv_wf, fobj_ren, fobj_wf, setUp_root, setK_root, setRed_root])
      · have hur' : (s.f (kid s.f (s.f (s.f z).up).up (!side s (s.f z).up))).red = false := by simpa using hur
        (have g0 := fun qf q0 => get_kd (f := qf) q0 hg; have g1 := fun qf => get_red (f := qf) hu; have g2 := hur'; refine GG3 ?_; clear g0 g1 g2)
        (first | ((with_reducible first | apply RunP.call | apply Run.call | apply Run.call0); iterate 2 (· (simp only [go_sem, reduceIte, Nat.reduceEqDiff]; (try with_reducible exact rfl)))) | ((with_reducible first | apply Run.callY | apply RunP.callY); iterate 3 (· (simp only [go_sem, reduceIte, Nat.reduceEqDiff]; (try with_reducible exact rfl)))))
        refine sound_use (side_c t s _ bd hz) [0, 1, 2] rfl (by decide) ?_ ?_ ?_ ?_ ?_; iterate 4 (· simp [-List.map_map, embAt, nm, rn_rw, rn_ro, rn_map, rn_iter, rn_dead, renL, Val.ren, wfAll, wn_rw, wn_ro, wn_map, wn_iter, wn_dead, wfL, Val.wf, Env.get, initEnv, tH, TS.cells, encF_ren, encF_wf, fv_ren, fv_wf, fobj_ren, fobj_wf, setUp_root, setK_root, setRed_root])
        rintro v C' ⟨rfl, rfl⟩
        simp only [merge, place, after, nm, MG, Val.ren, renL, rn_rw, rn_ro, rn_map, rn_iter, rn_dead, reduceIte, Nat.reduceLT, Nat.reduceAdd, Nat.reduceSub, Nat.lt_irrefl, Nat.zero_lt_one, Nat.zero_lt_succ, tH, TS.cells, encF_ren, encF_wf, fv_ren, fv_wf, fobj_ren, fobj_wf, setUp_root, setK_root, setRed_root]
        have b2 := (bd.setRed (c := false) hp).setRed (c := true) hg
        by_cases hsd : side s z = side s (s.f z).up
        · have hb : (dv (side s z) != dv (side s (s.f z).up)) = false := by rw [hsd]; simp
          have e1 : settle1 s z = (turn (setRed (setRed s (s.f z).up false) (s.f (s.f z).up).up true) (s.f (s.f z).up).up (!side s (s.f z).up), z) := by
            simp only [settle1]; rw [if_neg hur, if_pos hsd]
          rw [e1] at hf b1
          (have g0 := hb; have g1 := fun qf q0 => set_red (s := qf) q0 hp; have g2 := fun qf q0 => set_red (s := qf) q0 hg; refine GG3 ?_; clear g0 g1 g2)
          (first | ((with_reducible first | apply RunP.call | apply Run.call | apply Run.call0); iterate 2 (· (simp only [go_sem, reduceIte, Nat.reduceEqDiff]; (try with_reducible exact rfl)))) | ((with_reducible first | apply Run.callY | apply RunP.callY); iterate 3 (· (simp only [go_sem, reduceIte, Nat.reduceEqDiff]; (try with_reducible exact rfl)))))
          refine sound_use (turn_c t _ _ (!side s (s.f z).up) b2 hg) [0, 1, 2] rfl (by decide) ?_ ?_ ?_ ?_ ?_; iterate 4 (· simp [-List.map_map, embAt, nm, rn_rw, rn_ro, rn_map, rn_iter, rn_dead, renL, Val.ren, wfAll, wn_rw, wn_ro, wn_map, wn_iter, wn_dead, wfL, Val.wf, Env.get, initEnv, tH, TS.cells, encF_ren, encF_wf, fv_ren, fv_wf, fobj_ren, fobj_wf, setUp_root, setK_root, setRed_root])
          rintro v C' ⟨rfl, rfl⟩
          simp only [merge, place, after, nm, MG, Val.ren, renL, rn_rw, rn_ro, rn_map, rn_iter, rn_dead, reduceIte, Nat.reduceLT, Nat.reduceAdd, Nat.reduceSub, Nat.lt_irrefl, Nat.zero_lt_one, Nat.zero_lt_succ, tH, TS.cells, encF_ren, encF_wf, fv_ren, fv_wf, fobj_ren, fobj_wf, setUp_root, setK_root, setRed_root]
          refine GG0 ?_
          refine ⟨n, by omega, _, _, b1.1, b1.2, hf, ?_⟩
          (refine anew [0, 1, 2] ?_ (by decide) ?_ ?_ ?_ rfl ?_ ?_ <;> simp [-List.map_map, embAt, nm, rn_rw, rn_ro, rn_map, rn_iter, rn_dead, renL, Val.ren, wfAll, wn_rw, wn_ro, wn_map, wn_iter, wn_dead, wfL, Val.wf, Env.get, initEnv, tH, TS.cells, encF_ren, encF_wf, fv_ren, fv_wf, fobj_ren, fobj_wf, setUp_root, setK_root, setRed_root])
        · have hb : (dv (side s z) != dv (side s (s.f z).up)) = true := by rw [dv_ne]; simpa using hsd
          have b3 := bd.turn (d := side s (s.f z).up) hp
          have hp3 := b3.up _ hp
          have b4 := (b3.setRed (c := false) hp3).setRed (c := true) hg
          have e1 : settle1 s z = (turn (setRed (setRed (turn s (s.f z).up (side s (s.f z).up)) ((turn s (s.f z).up (side s (s.f z).up)).f (s.f z).up).up false) (s.f (s.f z).up).up true) (s.f (s.f z).up).up (!side s (s.f z).up), (s.f z).up) := by
            simp only [settle1]; rw [if_neg hur, if_neg hsd]
          rw [e1] at hf b1
          (have g0 := hb; refine GG1 ?_; clear g0)
          (first | ((with_reducible first | apply RunP.call | apply Run.call | apply Run.call0); iterate 2 (· (simp only [go_sem, reduceIte, Nat.reduceEqDiff]; (try with_reducible exact rfl)))) | ((with_reducible first | apply Run.callY | apply RunP.callY); iterate 3 (· (simp only [go_sem, reduceIte, Nat.reduceEqDiff]; (try with_reducible exact rfl)))))
          refine sound_use (turn_c t s _ (side s (s.f z).up) bd hp) [0, 1, 2] rfl (by decide) ?_ ?_ ?_ ?_ ?_; iterate 4 (· simp [-List.map_map, embAt, nm, rn_rw, rn_ro, rn_map, rn_iter, rn_dead, renL, Val.ren, wfAll, wn_rw, wn_ro, wn_map, wn_iter, wn_dead, wfL, Val.wf, Env.get, initEnv, tH, TS.cells, encF_ren, encF_wf, fv_ren, fv_wf, fobj_ren, fobj_wf, setUp_root, setK_root, setRed_root])
          rintro v C' ⟨rfl, rfl⟩
          simp only [merge, place, after, nm, MG, Val.ren, renL, rn_rw, rn_ro, rn_map, rn_iter, rn_dead, reduceIte, Nat.reduceLT, Nat.reduceAdd, Nat.reduceSub, Nat.lt_irrefl, Nat.zero_lt_one, Nat.zero_lt_succ, tH, TS.cells, encF_ren, encF_wf, fv_ren, fv_wf, fobj_ren, fobj_wf, setUp_root, setK_root, setRed_root]
          (have g0 := fun qf => get_up (f := qf) hp; have g1 := fun qf q0 => set_red (s := qf) q0 hp3; have g2 := fun qf q0 => set_red (s := qf) q0 hg; refine GG3 ?_; clear g0 g1 g2)
          (first | ((with_reducible first | apply RunP.call | apply Run.call | apply Run.call0); iterate 2 (· (simp only [go_sem, reduceIte, Nat.reduceEqDiff]; (try with_reducible exact rfl)))) | ((with_reducible first | apply Run.callY | apply RunP.callY); iterate 3 (· (simp only [go_sem, reduceIte, Nat.reduceEqDiff]; (try with_reducible exact rfl)))))
          refine sound_use (turn_c t _ _ (!side s (s.f z).up) b4 hg) [0, 1, 2] rfl (by decide) ?_ ?_ ?_ ?_ ?_; iterate 4 (· simp [-List.map_map, embAt, nm, rn_rw, rn_ro, rn_map, rn_iter, rn_dead, renL, Val.ren, wfAll, wn_rw, wn_ro, wn_map, wn_iter, wn_dead, wfL, Val.wf, Env.get, initEnv, tH, TS.cells, encF_ren, encF_wf, fv_ren, fv_wf, fobj_ren, fobj_wf, setUp_root, setK_root, setRed_root])
          rintro v C' ⟨rfl, rfl⟩
          simp only [merge, place, after, nm, MG, Val.ren, renL, rn_rw, rn_ro, rn_map, rn_iter, rn_dead, reduceIte, Nat.reduceLT, Nat.reduceAdd, Nat.reduceSub, Nat.lt_irrefl, Nat.zero_lt_one, Nat.zero_lt_succ, tH, TS.cells, encF_ren, encF_wf, fv_ren, fv_wf, fobj_ren, fobj_wf, setUp_root, setK_root, setRed_root]
          refine GG0 ?_
          refine ⟨n, by omega, _, _, b1.1, b1.2, hf, ?_⟩
          (refine anew [0, 1, 2] ?_ (by decide) ?_ ?_ ?_ rfl ?_ ?_ <;> simp [-List.map_map, embAt, nm, rn_rw, rn_ro, rn_map, rn_iter, rn_dead, renL, Val.ren, wfAll, wn_rw, wn_ro, wn_map, wn_iter, wn_dead, wfL, Val.wf, Env.get, initEnv, tH, TS.cells, encF_ren, encF_wf, fv_ren, fv_wf, fobj_ren, fobj_wf, setUp_root, setK_root, setRed_root])
    · rw [if_neg hr] at hf
      cases hf
      have hr' : (s.f (s.f z).up).red = false := by simpa using hr
      (have g0 := fun qf => get_up (f := qf) hz; have g1 := fun qf => get_red (f := qf) hp; have g2 := hr'; have g3 := fun qf q0 => set_red (s := qf) q0 hroot; refine GG4 ?_; clear g0 g1 g2 g3)
      refine told [0, 1, 2] (tH t (setRed s s.root false)) (.tup []) ?_ (by decide) ?_ ?_ ?_ rfl ?_ ?_ ?_; iterate 6 (· simp [-List.map_map, embAt, nm, rn_rw, rn_ro, rn_map, rn_iter, rn_dead, renL, Val.ren, wfAll, wn_rw, wn_ro, wn_map, wn_iter, wn_dead, wfL, Val.wf, Env.get, initEnv, tH, TS.cells, encF_ren, encF_wf, fv_ren, fv_wf, fobj_ren, fobj_wf, setUp_root, setK_root, setRed_root])
      exact ⟨rfl, rfl⟩
def LInv (t : TS) (s' : Rb) (n : Nat) (ρ : Env) (H : Heap) : Prop :=
  ∃ (s : Rb) (x : Nat), Bnd s t.len ∧ x < t.len ∧ liftF n s x = some s' ∧ AnewS 3 (tH t s) [(0, .p 0 0), (1, .i .i64 (x : Nat))] ρ H
def lfin (s : Rb) (p w : Nat) (d : Bool) : Rb :=
  turn (setRed (setRed (setRed s w (s.f p).red) p false) (kid (setRed (setRed s w (s.f p).red) p false).f w (!d)) false) p d
theorem lift_c (t : TS) (s s' : Rb) (x m : Nat) (bd : Bnd s t.len) (hx : x < t.len) (hf : liftF m s x = some s') : SoundM Try.prog 3 47 [.p 0 0, .i .i64 (x : Nat)] (tH t s) (Lv t s' (.tup [])) := by
  refine sound_told (sound_func Try.func47 c47 rfl (by simp [tH]) ?_)
  simp only [e47]
  refine GG0 ?_
  refine ei_loop (LInv t s') (n := m) ?_ ?_
  · refine ⟨s, x, bd, hx, hf, ?_⟩
    (refine anew [0, 1, 2] ?_ (by decide) ?_ ?_ ?_ rfl ?_ ?_ <;> simp [-List.map_map, embAt, nm, rn_rw, rn_ro, rn_map, rn_iter, rn_dead, renL, Val.ren, wfAll, wn_rw, wn_ro, wn_map, wn_iter, wn_dead, wfL, Val.wf, Env.get, initEnv, tH, TS.cells, encF_ren, encF_wf, fv_ren, fv_wf, fobj_ren, fobj_wf, setUp_root, setK_root, setRed_root])
  · rintro n ρ H ⟨s, x, bd, hx, hf, ha⟩
    refine ei_anewS ha ?_
    clear ha
    cases n with
    | zero => cases hf
    | succ n =>
    simp only [liftF] at hf
    simp only [tH, TS.cells]
    by_cases h1 : x = s.root
    · rw [if_neg (fun q => q.1 h1)] at hf
      cases hf
      have hb : (((x : Nat) : Int) != ((s.root : Nat) : Int)) = false := by simp [h1]
      (have g0 := hb; have g1 := fun qf q0 => set_red (s := qf) q0 hx; refine GG2 ?_; clear g0 g1)
      refine told [0, 1, 2] (tH t (setRed s x false)) (.tup []) ?_ (by decide) ?_ ?_ ?_ rfl ?_ ?_ ?_; iterate 6 (· simp [-List.map_map, embAt, nm, rn_rw, rn_ro, rn_map, rn_iter, rn_dead, renL, Val.ren, wfAll, wn_rw, wn_ro, wn_map, wn_iter, wn_dead, wfL, Val.wf, Env.get, initEnv, tH, TS.cells, encF_ren, encF_wf, fv_ren, fv_wf, fobj_ren, fobj_wf, setUp_root, setK_root, setRed_root])
      exact ⟨rfl, rfl⟩
    · have hb : (((x : Nat) : Int) != ((s.root : Nat) : Int)) = true := by simp; omega
      by_cases h2 : (s.f x).red = true
      · rw [if_neg (fun q => by rw [h2] at q; cases q.2)] at hf
        cases hf
        (have g0 := hb; have g1 := fun qf => get_red (f := qf) hx; have g2 := h2; have g3 := fun qf q0 => set_red (s := qf) q0 hx; refine GG4 ?_; clear g0 g1 g2 g3)
        refine told [0, 1, 2] (tH t (setRed s x false)) (.tup []) ?_ (by decide) ?_ ?_ ?_ rfl ?_ ?_ ?_; iterate 6 (· simp [-List.map_map, embAt, nm, rn_rw, rn_ro, rn_map, rn_iter, rn_dead, renL, Val.ren, wfAll, wn_rw, wn_ro, wn_map, wn_iter, wn_dead, wfL, Val.wf, Env.get, initEnv, tH, TS.cells, encF_ren, encF_wf, fv_ren, fv_wf, fobj_ren, fobj_wf, setUp_root, setK_root, setRed_root])
        exact ⟨rfl, rfl⟩
      · have h2' : (s.f x).red = false := by simpa using h2
        rw [if_pos ⟨h1, h2'⟩] at hf
        have hp := bd.up x hx
        have hw := bd.kid hp (!!decide ((s.f (s.f x).up).k0 = x))
        obtain ⟨b1, b2⟩ := bd.lift1 hx
        have e1 : lift1 s x = if (s.f (kid s.f (s.f x).up (!!decide ((s.f (s.f x).up).k0 = x)))).red = true then
            lift2 (turn (setRed (setRed s (kid s.f (s.f x).up (!!decide ((s.f (s.f x).up).k0 = x))) false) (s.f x).up true) (s.f x).up (!decide ((s.f (s.f x).up).k0 = x))) (s.f x).up
              (kid (turn (setRed (setRed s (kid s.f (s.f x).up (!!decide ((s.f (s.f x).up).k0 = x))) false) (s.f x).up true) (s.f x).up (!decide ((s.f (s.f x).up).k0 = x))).f (s.f x).up (!!decide ((s.f (s.f x).up).k0 = x))) (!decide ((s.f (s.f x).up).k0 = x))
            else lift2 s (s.f x).up (kid s.f (s.f x).up (!!decide ((s.f (s.f x).up).k0 = x))) (!decide ((s.f (s.f x).up).k0 = x)) := rfl
        (have g0 := hb; have g1 := fun qf => get_red (f := qf) hx; have g2 := h2'; have g3 := fun qf => get_up (f := qf) hx; have g4 := fun qf => get_k0 (f := qf) hp; refine GG5 ?_; clear g0 g1 g2 g3 g4)
        -- the side
        refine ei_mid (M := AnewS 3 (tH t s) [(0, .p 0 0), (1, .i .i64 (x : Nat)), (4, .i .i64 ((s.f x).up : Nat)), (5, .i .i64 (dv (!decide ((s.f (s.f x).up).k0 = x))))]) ?_ (fun ρ' H' ha => ei_anewS ha ?_)
        · by_cases hk : (s.f (s.f x).up).k0 = x
          · have hb2 : ((((s.f (s.f x).up).k0 : Nat) : Int) != ((x : Nat) : Int)) = false := by simp [hk]
            have hd : (!decide ((s.f (s.f x).up).k0 = x)) = false := by simp [hk]
            rw [hd]
            (have g0 := hb2; refine GG1 ?_; clear g0)
            (refine anew [0, 1, 2] ?_ (by decide) ?_ ?_ ?_ rfl ?_ ?_ <;> simp [-List.map_map, embAt, nm, rn_rw, rn_ro, rn_map, rn_iter, rn_dead, renL, Val.ren, wfAll, wn_rw, wn_ro, wn_map, wn_iter, wn_dead, wfL, Val.wf, Env.get, initEnv, tH, TS.cells, encF_ren, encF_wf, fv_ren, fv_wf, fobj_ren, fobj_wf, setUp_root, setK_root, setRed_root, dv_f])
          · have hb2 : ((((s.f (s.f x).up).k0 : Nat) : Int) != ((x : Nat) : Int)) = true := by simp; omega
            have hd : (!decide ((s.f (s.f x).up).k0 = x)) = true := by simp [hk]
            rw [hd]
            (have g0 := hb2; refine GG1 ?_; clear g0)
            (refine anew [0, 1, 2] ?_ (by decide) ?_ ?_ ?_ rfl ?_ ?_ <;> simp [-List.map_map, embAt, nm, rn_rw, rn_ro, rn_map, rn_iter, rn_dead, renL, Val.ren, wfAll, wn_rw, wn_ro, wn_map, wn_iter, wn_dead, wfL, Val.wf, Env.get, initEnv, tH, TS.cells, encF_ren, encF_wf, fv_ren, fv_wf, fobj_ren, fobj_wf, setUp_root, setK_root, setRed_root, dv_t])
        · generalize (!decide ((s.f (s.f x).up).k0 = x)) = d at hw e1
          generalize (s.f x).up = p at hp hw e1
          have hd := dn_le d
          have hd' := dn_le (!d)
          have hroot := bd.root
          simp only [tH, TS.cells]
          (have g0 := fun qf q0 => get_kd (f := qf) q0 hp; have g1 := fun qf => get_red (f := qf) hw; refine GG2 ?_; clear g0 g1)
          -- a red one beside it
          refine ei_mid (M := fun ρ H => ∃ (s2 : Rb) (w : Nat), Bnd s2 t.len ∧ w < t.len ∧ lift1 s x = lift2 s2 p w d ∧ AnewS 3 (tH t s2) [(0, .p 0 0), (1, .i .i64 (x : Nat)), (4, .i .i64 (p : Nat)), (5, .i .i64 (dv d)), (6, .i .i64 (w : Nat))] ρ H) ?_ ?_
          · by_cases hr : (s.f (kid s.f p (!d))).red = true
            · rw [if_pos hr] at e1
              have b3 := (bd.setRed (c := false) hw).setRed (c := true) hp
              have b4 := b3.turn (d := d) hp
              have hw2 := b4.kid hp (!d)
              (have g0 := hr; have g1 := fun qf q0 => set_red (s := qf) q0 hw; have g2 := fun qf q0 => set_red (s := qf) q0 hp; refine GG3 ?_; clear g0 g1 g2)
              (first | ((with_reducible first | apply RunP.call | apply Run.call | apply Run.call0); iterate 2 (· (simp only [go_sem, reduceIte, Nat.reduceEqDiff]; (try with_reducible exact rfl)))) | ((with_reducible first | apply Run.callY | apply RunP.callY); iterate 3 (· (simp only [go_sem, reduceIte, Nat.reduceEqDiff]; (try with_reducible exact rfl)))))
              refine sound_use (turn_c t _ _ d b3 hp) [0, 1, 2] rfl (by decide) ?_ ?_ ?_ ?_ ?_; iterate 4 (· simp [-List.map_map, embAt, nm, rn_rw, rn_ro, rn_map, rn_iter, rn_dead, renL, Val.ren, wfAll, wn_rw, wn_ro, wn_map, wn_iter, wn_dead, wfL, Val.wf, Env.get, initEnv, tH, TS.cells, encF_ren, encF_wf, fv_ren, fv_wf, fobj_ren, fobj_wf, setUp_root, setK_root, setRed_root])
              rintro v C' ⟨rfl, rfl⟩
              simp only [merge, place, after, nm, MG, Val.ren, renL, rn_rw, rn_ro, rn_map, rn_iter, rn_dead, reduceIte, Nat.reduceLT, Nat.reduceAdd, Nat.reduceSub, Nat.lt_irrefl, Nat.zero_lt_one, Nat.zero_lt_succ, tH, TS.cells, encF_ren, encF_wf, fv_ren, fv_wf, fobj_ren, fobj_wf, setUp_root, setK_root, setRed_root]
              (have g0 := fun qf q0 => get_kd (f := qf) q0 hp; refine GG1 ?_; clear g0)
              refine ⟨_, _, b4, hw2, e1, ?_⟩
              (refine anew [0, 1, 2] ?_ (by decide) ?_ ?_ ?_ rfl ?_ ?_ <;> simp [-List.map_map, embAt, nm, rn_rw, rn_ro, rn_map, rn_iter, rn_dead, renL, Val.ren, wfAll, wn_rw, wn_ro, wn_map, wn_iter, wn_dead, wfL, Val.wf, Env.get, initEnv, tH, TS.cells, encF_ren, encF_wf, fv_ren, fv_wf, fobj_ren, fobj_wf, setUp_root, setK_root, setRed_root])
            · rw [if_neg hr] at e1
              have hr' : (s.f (kid s.f p (!d))).red = false := by simpa using hr
              (have g0 := hr'; refine GG1 ?_; clear g0)
              refine ⟨_, _, bd, hw, e1, ?_⟩
              (refine anew [0, 1, 2] ?_ (by decide) ?_ ?_ ?_ rfl ?_ ?_ <;> simp [-List.map_map, embAt, nm, rn_rw, rn_ro, rn_map, rn_iter, rn_dead, renL, Val.ren, wfAll, wn_rw, wn_ro, wn_map, wn_iter, wn_dead, wfL, Val.wf, Env.get, initEnv, tH, TS.cells, encF_ren, encF_wf, fv_ren, fv_wf, fobj_ren, fobj_wf, setUp_root, setK_root, setRed_root])
          · rintro ρ' H' ⟨s2, w, bd2, hw2, e2, ha⟩
            refine ei_anewS ha ?_
            rw [e2] at hf b1 b2
            clear ha e1 e2 hw
            have hl := bd2.kid hw2 false
            have hr := bd2.kid hw2 true
            have hl' : (s2.f w).k0 < t.len := hl
            have hr' : (s2.f w).k1 < t.len := hr
            simp only [tH, TS.cells]
            by_cases hbb : (s2.f (kid s2.f w false)).red = false ∧ (s2.f (kid s2.f w true)).red = false
            · have e3 : lift2 s2 p w d = (setRed s2 w true, p) := by simp only [lift2]; rw [if_pos hbb]
              rw [e3] at hf b1 b2
              have q1 : (s2.f (s2.f w).k0).red = false := hbb.1
              have q2 : (s2.f (s2.f w).k1).red = false := hbb.2
              (have g0 := fun qf => get_k0 (f := qf) hw2; have g1 := fun qf => get_k1 (f := qf) hw2; have g2 := fun qf => get_red (f := qf) hl'; have g3 := fun qf => get_red (f := qf) hr'; have g4 := q1; have g5 := q2; have g6 := fun qf q0 => set_red (s := qf) q0 hw2; refine GG7 ?_; clear g0 g1 g2 g3 g4 g5 g6)
              refine ⟨n, by omega, _, _, b1, b2, hf, ?_⟩
              (refine anew [0, 1, 2] ?_ (by decide) ?_ ?_ ?_ rfl ?_ ?_ <;> simp [-List.map_map, embAt, nm, rn_rw, rn_ro, rn_map, rn_iter, rn_dead, renL, Val.ren, wfAll, wn_rw, wn_ro, wn_map, wn_iter, wn_dead, wfL, Val.wf, Env.get, initEnv, tH, TS.cells, encF_ren, encF_wf, fv_ren, fv_wf, fobj_ren, fobj_wf, setUp_root, setK_root, setRed_root])
            · have e3 : lift2 s2 p w d = (lfin (if (s2.f (kid s2.f w (!d))).red = true then (s2, w) else (turn (setRed (setRed s2 (kid s2.f w d) false) w true) w (!d), kid (turn (setRed (setRed s2 (kid s2.f w d) false) w true) w (!d)).f p (!d))).1 p
                  (if (s2.f (kid s2.f w (!d))).red = true then (s2, w) else (turn (setRed (setRed s2 (kid s2.f w d) false) w true) w (!d), kid (turn (setRed (setRed s2 (kid s2.f w d) false) w true) w (!d)).f p (!d))).2 d,
                  (lfin (if (s2.f (kid s2.f w (!d))).red = true then (s2, w) else (turn (setRed (setRed s2 (kid s2.f w d) false) w true) w (!d), kid (turn (setRed (setRed s2 (kid s2.f w d) false) w true) w (!d)).f p (!d))).1 p
                  (if (s2.f (kid s2.f w (!d))).red = true then (s2, w) else (turn (setRed (setRed s2 (kid s2.f w d) false) w true) w (!d), kid (turn (setRed (setRed s2 (kid s2.f w d) false) w true) w (!d)).f p (!d))).2 d).root) := by
                unfold lift2; rw [if_neg hbb]; rfl
              refine Ee ?_
              refine ei_mid (M := AnewS 3 (tH t s2) [(0, .p 0 0), (1, .i .i64 (x : Nat)), (4, .i .i64 (p : Nat)), (5, .i .i64 (dv d)), (6, .i .i64 (w : Nat))]) ?_ (fun ρ' H' ha => ei_anewS ha ?_)
              · by_cases q1 : (s2.f (s2.f w).k0).red = true
                · (have g0 := fun qf => get_k0 (f := qf) hw2; have g1 := fun qf => get_k1 (f := qf) hw2; have g2 := fun qf => get_red (f := qf) hl'; have g3 := fun qf => get_red (f := qf) hr'; have g4 := q1; refine GG5 ?_; clear g0 g1 g2 g3 g4)
                  (refine anew [0, 1, 2] ?_ (by decide) ?_ ?_ ?_ rfl ?_ ?_ <;> simp [-List.map_map, embAt, nm, rn_rw, rn_ro, rn_map, rn_iter, rn_dead, renL, Val.ren, wfAll, wn_rw, wn_ro, wn_map, wn_iter, wn_dead, wfL, Val.wf, Env.get, initEnv, tH, TS.cells, encF_ren, encF_wf, fv_ren, fv_wf, fobj_ren, fobj_wf, setUp_root, setK_root, setRed_root])
                · have q1' : (s2.f (s2.f w).k0).red = false := by simpa using q1
                  have q2 : (s2.f (s2.f w).k1).red = true := by
                    cases q : (s2.f (s2.f w).k1).red
                    · exact absurd ⟨q1', q⟩ hbb
                    · rfl
                  (have g0 := fun qf => get_k0 (f := qf) hw2; have g1 := fun qf => get_k1 (f := qf) hw2; have g2 := fun qf => get_red (f := qf) hl'; have g3 := fun qf => get_red (f := qf) hr'; have g4 := q1'; have g5 := q2; refine GG6 ?_; clear g0 g1 g2 g3 g4 g5)
                  (refine anew [0, 1, 2] ?_ (by decide) ?_ ?_ ?_ rfl ?_ ?_ <;> simp [-List.map_map, embAt, nm, rn_rw, rn_ro, rn_map, rn_iter, rn_dead, renL, Val.ren, wfAll, wn_rw, wn_ro, wn_map, wn_iter, wn_dead, wfL, Val.wf, Env.get, initEnv, tH, TS.cells, encF_ren, encF_wf, fv_ren, fv_wf, fobj_ren, fobj_wf, setUp_root, setK_root, setRed_root])
              · have hfar := bd2.kid hw2 (!d)
                have hnear := bd2.kid hw2 d
                simp only [tH, TS.cells]
                refine Ee ?_
                refine ei_mid (M := fun ρ H => ∃ (s3 : Rb) (v : Nat), Bnd s3 t.len ∧ v < t.len ∧ lift2 s2 p w d = (lfin s3 p v d, (lfin s3 p v d).root) ∧ AnewS 3 (tH t s3) [(0, .p 0 0), (1, .i .i64 (x : Nat)), (4, .i .i64 (p : Nat)), (5, .i .i64 (dv d)), (6, .i .i64 (v : Nat))] ρ H) ?_ ?_
                · by_cases hr : (s2.f (kid s2.f w (!d))).red = true
                  · rw [if_pos hr] at e3
                    (have g0 := fun qf q0 => get_kd (f := qf) q0 hw2; have g1 := fun qf => get_red (f := qf) hfar; have g2 := hr; refine GG3 ?_; clear g0 g1 g2)
                    refine ⟨_, _, bd2, hw2, e3, ?_⟩
                    (refine anew [0, 1, 2] ?_ (by decide) ?_ ?_ ?_ rfl ?_ ?_ <;> simp [-List.map_map, embAt, nm, rn_rw, rn_ro, rn_map, rn_iter, rn_dead, renL, Val.ren, wfAll, wn_rw, wn_ro, wn_map, wn_iter, wn_dead, wfL, Val.wf, Env.get, initEnv, tH, TS.cells, encF_ren, encF_wf, fv_ren, fv_wf, fobj_ren, fobj_wf, setUp_root, setK_root, setRed_root])
                  · rw [if_neg hr] at e3
                    have hr' : (s2.f (kid s2.f w (!d))).red = false := by simpa using hr
                    have b3 := (bd2.setRed (c := false) hnear).setRed (c := true) hw2
                    have b4 := b3.turn (d := !d) hw2
                    have hw3 := b4.kid hp (!d)
                    (have g0 := fun qf q0 => get_kd (f := qf) q0 hw2; have g1 := fun qf => get_red (f := qf) hfar; have g2 := hr'; have g3 := fun qf q0 => set_red (s := qf) q0 hnear; have g4 := fun qf q0 => set_red (s := qf) q0 hw2; refine GG5 ?_; clear g0 g1 g2 g3 g4)
                    (first | ((with_reducible first | apply RunP.call | apply Run.call | apply Run.call0); iterate 2 (· (simp only [go_sem, reduceIte, Nat.reduceEqDiff]; (try with_reducible exact rfl)))) | ((with_reducible first | apply Run.callY | apply RunP.callY); iterate 3 (· (simp only [go_sem, reduceIte, Nat.reduceEqDiff]; (try with_reducible exact rfl)))))
                    refine sound_use (turn_c t _ _ (!d) b3 hw2) [0, 1, 2] rfl (by decide) ?_ ?_ ?_ ?_ ?_; iterate 4 (· simp [-List.map_map, embAt, nm, rn_rw, rn_ro, rn_map, rn_iter, rn_dead, renL, Val.ren, wfAll, wn_rw, wn_ro, wn_map, wn_iter, wn_dead, wfL, Val.wf, Env.get, initEnv, tH, TS.cells, encF_ren, encF_wf, fv_ren, fv_wf, fobj_ren, fobj_wf, setUp_root, setK_root, setRed_root])
                    rintro v C' ⟨rfl, rfl⟩
                    simp only [merge, place, after, nm, MG, Val.ren, renL, rn_rw, rn_ro, rn_map, rn_iter, rn_dead, reduceIte, Nat.reduceLT, Nat.reduceAdd, Nat.reduceSub, Nat.lt_irrefl, Nat.zero_lt_one, Nat.zero_lt_succ, tH, TS.cells, encF_ren, encF_wf, fv_ren, fv_wf, fobj_ren, fobj_wf, setUp_root, setK_root, setRed_root]
                    (have g0 := fun qf q0 => get_kd (f := qf) q0 hp; refine GG1 ?_; clear g0)
                    refine ⟨_, _, b4, hw3, e3, ?_⟩
                    (refine anew [0, 1, 2] ?_ (by decide) ?_ ?_ ?_ rfl ?_ ?_ <;> simp [-List.map_map, embAt, nm, rn_rw, rn_ro, rn_map, rn_iter, rn_dead, renL, Val.ren, wfAll, wn_rw, wn_ro, wn_map, wn_iter, wn_dead, wfL, Val.wf, Env.get, initEnv, tH, TS.cells, encF_ren, encF_wf, fv_ren, fv_wf, fobj_ren, fobj_wf, setUp_root, setK_root, setRed_root])
                · rintro ρ' H' ⟨s3, v, bd3, hv, e4, ha⟩
                  refine ei_anewS ha ?_
                  rw [e4] at hf b1 b2
                  clear ha e3 e4
                  have b3 := (bd3.setRed (c := (s3.f p).red) hv).setRed (c := false) hp
                  have hk := b3.kid hv (!d)
                  have b4 := b3.setRed (c := false) hk
                  simp only [tH, TS.cells]
                  (have g0 := fun qf => get_red (f := qf) hp; have g1 := fun qf q0 => set_red (s := qf) q0 hv; have g2 := fun qf q0 => set_red (s := qf) q0 hp; have g3 := fun qf q0 => get_kd (f := qf) q0 hv; have g4 := fun qf q0 => set_red (s := qf) q0 hk; refine GG5 ?_; clear g0 g1 g2 g3 g4)
                  (first | ((with_reducible first | apply RunP.call | apply Run.call | apply Run.call0); iterate 2 (· (simp only [go_sem, reduceIte, Nat.reduceEqDiff]; (try with_reducible exact rfl)))) | ((with_reducible first | apply Run.callY | apply RunP.callY); iterate 3 (· (simp only [go_sem, reduceIte, Nat.reduceEqDiff]; (try with_reducible exact rfl)))))
                  refine sound_use (turn_c t _ _ d b4 hp) [0, 1, 2] rfl (by decide) ?_ ?_ ?_ ?_ ?_; iterate 4 (· simp [-List.map_map, embAt, nm, rn_rw, rn_ro, rn_map, rn_iter, rn_dead, renL, Val.ren, wfAll, wn_rw, wn_ro, wn_map, wn_iter, wn_dead, wfL, Val.wf, Env.get, initEnv, tH, TS.cells, encF_ren, encF_wf, fv_ren, fv_wf, fobj_ren, fobj_wf, setUp_root, setK_root, setRed_root])
                  rintro v C' ⟨rfl, rfl⟩
                  simp only [merge, place, after, nm, MG, Val.ren, renL, rn_rw, rn_ro, rn_map, rn_iter, rn_dead, reduceIte, Nat.reduceLT, Nat.reduceAdd, Nat.reduceSub, Nat.lt_irrefl, Nat.zero_lt_one, Nat.zero_lt_succ, tH, TS.cells, encF_ren, encF_wf, fv_ren, fv_wf, fobj_ren, fobj_wf, setUp_root, setK_root, setRed_root]
                  refine GG0 ?_
                  refine ⟨n, by omega, _, _, b1, b2, hf, ?_⟩
                  (refine anew [0, 1, 2] ?_ (by decide) ?_ ?_ ?_ rfl ?_ ?_ <;> simp [-List.map_map, embAt, nm, rn_rw, rn_ro, rn_map, rn_iter, rn_dead, renL, Val.ren, wfAll, wn_rw, wn_ro, wn_map, wn_iter, wn_dead, wfL, Val.wf, Env.get, initEnv, tH, TS.cells, encF_ren, encF_wf, fv_ren, fv_wf, fobj_ren, fobj_wf, setUp_root, setK_root, setRed_root, lfin])
end Go.Proofs.Ytjahkgfihdngkaa.IR
