/- This text of a proof shows: what the small functions of a tree come to. -/
import Derived.Test.YtjahkgfihdngkaaGg
import Derived.Test.YtjahkgfihdngkaaR11
import Derived.Test.YtjahkgfihdngkaaRb6
set_option linter.unusedVariables false
set_option linter.unusedSimpArgs false
set_option linter.constructorNameAsVariable false
namespace Go.Proofs.Ytjahkgfihdngkaa.IR
open Go Go.Proofs.Ytjahkgfihdngkaa.Ev Go.Proofs.Ytjahkgfihdngkaa.Ev.Rb
set_option linter.unusedSimpArgs false
set_option linter.unusedVariables false
set_option maxHeartbeats 4000000
attribute [local go_sem] skipV nc0 nc1 nc2 nc3 bne_self_eq_false decide_true decide_false IOp.step Opd.ev Env.get initEnv Val.cells? Val.one List.all_cons List.all_nil Bool.and_true Bool.and_self Bool.true_and bin ints eqv Val.kindNo lenNo_s lenNo_nils lenNo_sl lenNo_nilm lenNo_m lenOf_s lenOf_nils lenOf_sl lenOf_nilm unary partsOf padTo List.foldl_cons List.foldl_nil wr_nil wr_step wr_zero List.set_cons_zero List.set_cons_succ List.map_cons List.map_nil z1 z2 Nat.succ_ne_zero List.length_cons List.length_nil List.cons_append List.nil_append List.append_nil List.getElem?_cons_zero List.getElem?_cons_succ List.getElem?_nil Option.map_some Option.map_none Nat.zero_add Nat.add_zero List.drop_zero List.drop_succ_cons List.take_succ_cons List.take_zero List.take_nil and_self and_true true_and Nat.le_refl Bool.not_true Bool.not_false Option.getD_some window Val.slen bnd resV resL RV.val Bool.false_eq_true BEq.rfl Bool.true_beq Bool.false_beq beq_true beq_false mk_one ite_true ite_false eqc ceqs ceq NOp.step isK eq_self
attribute [local go_sem] nat_toNat
attribute [local go_sem] nat_toNat encF_length wr_one Nat.mul_one dv_dn dv_0 dv_2 dv_f dv_t dv_not setK_root setUp_root setRed_root
theorem tno_c (t : TS) (s : Rb) : SoundM Try.prog 3 41 [.p 0 0] (tH t s) (Lv t s (.b false)) := by
  refine sound_told (sound_func Try.func41 c41 rfl (by simp [tH]) ?_)
  simp only [e41, tH, TS.cells]
  refine GG0 ?_
  refine told [0, 1, 2] (tH t s) (.b false) ?_ (by decide) ?_ ?_ ?_ rfl ?_ ?_ ?_; iterate 6 (· simp [-List.map_map, embAt, nm, rn_rw, rn_ro, rn_map, rn_iter, rn_dead, renL, Val.ren, wfAll, wn_rw, wn_ro, wn_map, wn_iter, wn_dead, wfL, Val.wf, Env.get, initEnv, tH, TS.cells, encF_ren, encF_wf, fv_ren, fv_wf, fobj_ren, fobj_wf])
  exact ⟨rfl, rfl⟩
theorem tless_c (a b c d : Int) : SoundM Try.prog 0 43 [.agg [.i .u64 a, .i .u64 b], .agg [.i .u64 c, .i .u64 d]] [] (fun v H => v = .b (decide (klt (a, b) (c, d))) ∧ H = []) := by
  refine sound_told (sound_func Try.func43 c43 rfl (by simp) ?_)
  simp only [e43]
  have key : ∀ x : Bool, x = decide (klt (a, b) (c, d)) → Ev.Told 0 (fun v H => v = .b (decide (klt (a, b) (c, d))) ∧ H = []) (.b x) [.rw [.i .u64 a, .i .u64 b], .rw [.i .u64 c, .i .u64 d]] := by
    rintro x rfl
    refine told [] [] (.b (decide (klt (a, b) (c, d)))) ?_ (by decide) ?_ ?_ ?_ rfl ?_ ?_ ?_; iterate 6 (· simp [-List.map_map, embAt, nm, rn_rw, rn_ro, rn_map, rn_iter, rn_dead, renL, Val.ren, wfAll, wn_rw, wn_ro, wn_map, wn_iter, wn_dead, wfL, Val.wf, Env.get, initEnv, Val.ren])
    exact ⟨rfl, rfl⟩
  by_cases h1 : a < c
  · (have g0 := decide_t h1; refine GG1 ?_; clear g0)
    refine key true ?_
    exact (decide_t (show klt (a, b) (c, d) from .inl h1)).symm
  · by_cases h2 : a = c
    · have h2b : (a == c) = true := by simp [h2]
      (have g0 := decide_f h1; have g1 := h2b; refine GG2 ?_; clear g0 g1)
      refine key _ ?_
      subst h2
      exact decide_eq_decide.2 ⟨fun h => .inr ⟨rfl, h⟩, fun h => by rcases h with h | h; exact absurd h h1; exact h.2⟩
    · have h2b : (a == c) = false := by simpa using h2
      (have g0 := decide_f h1; have g1 := h2b; refine GG2 ?_; clear g0 g1)
      refine key false ?_
      refine (decide_f ?_).symm
      rintro (h | h)
      · exact h1 h
      · exact h2 h.1
theorem less_ok (a b c d : Int) (H : Heap) : SoundCall Try.prog 43 [.agg [.i .u64 a, .i .u64 b], .agg [.i .u64 c, .i .u64 d]] H (fun v H' => v = .b (decide (klt (a, b) (c, d))) ∧ H' = H) :=
  sound_alone (tless_c a b c d) (by simp [wfL, Val.wf]) (fun ι => by simp [renL, Val.ren]) (fun ι => rfl) H
theorem side_c (t : TS) (s : Rb) (x : Nat) (bd : Bnd s t.len) (hx : x < t.len) : SoundM Try.prog 3 52 [.p 0 0, .i .i64 (x : Nat)] (tH t s) (Lv t s (.i .i64 (dv (side s x)))) := by
  refine sound_told (sound_func Try.func52 c52 rfl (by simp [tH]) ?_)
  simp only [e52, tH, TS.cells]
  have hq := bd.up x hx
  (have g0 := fun qf => get_up (f := qf) hx; have g1 := fun qf => get_k0 (f := qf) hq; refine GG2 ?_; clear g0 g1)
  ((with_reducible apply ei_cond); (· (simp only [go_sem, reduceIte, Nat.reduceEqDiff]; (try with_reducible exact rfl)))) <;> intro h
  · refine GG0 ?_
    refine told [0, 1, 2] (tH t s) (.i .i64 0) ?_ (by decide) ?_ ?_ ?_ rfl ?_ ?_ ?_; iterate 6 (· simp [-List.map_map, embAt, nm, rn_rw, rn_ro, rn_map, rn_iter, rn_dead, renL, Val.ren, wfAll, wn_rw, wn_ro, wn_map, wn_iter, wn_dead, wfL, Val.wf, Env.get, initEnv, tH, TS.cells, encF_ren, encF_wf, fv_ren, fv_wf, fobj_ren, fobj_wf])
    refine ⟨?_, rfl⟩
    have : (s.f (s.f x).up).k0 = x := by simp at h; omega
    simp [side, this, dv]
  · refine GG0 ?_
    refine told [0, 1, 2] (tH t s) (.i .i64 1) ?_ (by decide) ?_ ?_ ?_ rfl ?_ ?_ ?_; iterate 6 (· simp [-List.map_map, embAt, nm, rn_rw, rn_ro, rn_map, rn_iter, rn_dead, renL, Val.ren, wfAll, wn_rw, wn_ro, wn_map, wn_iter, wn_dead, wfL, Val.wf, Env.get, initEnv, tH, TS.cells, encF_ren, encF_wf, fv_ren, fv_wf, fobj_ren, fobj_wf])
    refine ⟨?_, rfl⟩
    have : (s.f (s.f x).up).k0 ≠ x := by simp at h; omega
    simp [side, this, dv]
theorem hang_c (t : TS) (s : Rb) (x z : Nat) (bd : Bnd s t.len) (hx : x < t.len) (hz : z < t.len) : SoundM Try.prog 3 46 [.p 0 0, .i .i64 (x : Nat), .i .i64 (z : Nat)] (tH t s) (Lv t (hang s x z) (.tup [])) := by
  refine sound_told (sound_func Try.func46 c46 rfl (by simp [tH]) ?_)
  have hu := bd.up z hz
  by_cases h0 : (s.f z).up = 0
  · rw [show hang s x z = setUp { s with root := x } x 0 by simp only [hang]; rw [if_pos h0, h0]]
    have e1 : (encF s.f t.len).set (x * 7 + 5) (.i .i64 0) = encF (setUp { s with root := x } x 0).f t.len := set_up (s := { s with root := x }) 0 hx
    simp only [e46, tH, TS.cells]
    repeat (first
    | ((first | (with_reducible first | apply Aa | apply Ab | apply Ac | apply Ad | apply Ae | apply Af | apply Na | apply Nb) | ((with_reducible first | apply Ag | apply Ah | apply Nc); · (simp only [go_sem, reduceIte, Nat.reduceEqDiff, nat_toNat, get_up hz, h0, nc0, e1]; (try with_reducible exact rfl)))); · (simp only [go_sem, Int.reduceBEq, Int.reduceBNe, Int.reduceLT, Int.reduceLE, Int.reduceAdd, Int.reduceSub, Int.reduceToNat, reduceIte, Nat.reduceEqDiff, Nat.reduceAdd, Nat.reduceMul, Nat.reduceLeDiff, Nat.reduceSub, reduceCtorEq, nat_toNat, get_up hz, h0, nc0, e1]; (try simp (disch := omega) only [OM, mn_lo, mn_hi, mx_lo, mx_hi, if_yes, if_no, Option.map_some, nat_toNat, get_up hz, h0, nc0, e1]); (try with_reducible exact rfl)))
    | ((with_reducible first | apply Ba | apply Bb | apply Bc | apply Bd | apply Be | apply Nd); · (simp only [go_sem, reduceIte, Nat.reduceEqDiff, nat_toNat, get_up hz, h0, nc0, e1]; (try with_reducible exact rfl))) | ((with_reducible first | apply Ca | apply Cb | apply Cc | apply Cd | apply Ce | apply Ne); · (simp only [go_sem, reduceIte, Nat.reduceEqDiff, nat_toNat, get_up hz, h0, nc0, e1]; (try with_reducible exact rfl)))
    | ((with_reducible first | apply Dg | apply Dh); (· decide +kernel); (· (simp only [inOrd, List.getElem?_cons_succ, List.getElem?_cons_zero]; exact rfl)))
    | ((with_reducible first | apply De | apply Df); (· decide +kernel); (· (simp only [inOrd, List.getElem?_cons_succ, List.getElem?_cons_zero]; exact rfl)))
    | (with_reducible first | apply Ea | apply Eb | apply Ec | apply Ed | apply Ee | apply Ef | apply Eg | apply Eh | apply Ei | apply Ej | apply Ek | apply El | apply Em | apply En | apply Eo) | ((with_reducible apply Ep); · rfl))
    refine told [0, 1, 2] (tH t (setUp { s with root := x } x 0)) (.tup []) ?_ (by decide) ?_ ?_ ?_ rfl ?_ ?_ ?_; iterate 6 (· simp [-List.map_map, embAt, nm, rn_rw, rn_ro, rn_map, rn_iter, rn_dead, renL, Val.ren, wfAll, wn_rw, wn_ro, wn_map, wn_iter, wn_dead, wfL, Val.wf, Env.get, initEnv, tH, TS.cells, encF_ren, encF_wf, fv_ren, fv_wf, fobj_ren, fobj_wf, setUp_root])
    exact ⟨rfl, rfl⟩
  · rw [show hang s x z = setUp (setK s (side s z) (s.f z).up x) x (s.f z).up by simp only [hang]; rw [if_neg h0]]
    have hbf : ((((s.f z).up : Nat) : Int) == 0) = false := by simpa using h0
    simp only [e46, tH, TS.cells]
    (have g0 := fun qf => get_up (f := qf) hz; have g1 := hbf; refine GG2 ?_; clear g0 g1)
    (first | ((with_reducible first | apply RunP.call | apply Run.call | apply Run.call0); iterate 2 (· (simp only [go_sem, reduceIte, Nat.reduceEqDiff]; (try with_reducible exact rfl)))) | ((with_reducible first | apply Run.callY | apply RunP.callY); iterate 3 (· (simp only [go_sem, reduceIte, Nat.reduceEqDiff]; (try with_reducible exact rfl)))))
    refine sound_use (side_c t s z bd hz) [0, 1, 2] rfl (by decide) ?_ ?_ ?_ ?_ ?_; iterate 4 (· simp [-List.map_map, embAt, nm, rn_rw, rn_ro, rn_map, rn_iter, rn_dead, renL, Val.ren, wfAll, wn_rw, wn_ro, wn_map, wn_iter, wn_dead, wfL, Val.wf, Env.get, initEnv, tH, TS.cells, encF_ren, encF_wf, fv_ren, fv_wf, fobj_ren, fobj_wf])
    rintro v C' ⟨rfl, rfl⟩
    simp only [merge, place, after, nm, MG, Val.ren, renL, rn_rw, rn_ro, rn_map, rn_iter, rn_dead, reduceIte, Nat.reduceLT, Nat.reduceAdd, Nat.reduceSub, Nat.lt_irrefl, Nat.zero_lt_one, Nat.zero_lt_succ, tH, TS.cells, encF_ren, encF_wf, fv_ren, fv_wf, fobj_ren, fobj_wf]
    refine ⟨trivial, ?_⟩
    have hd := dn_le (side s z)
    (have g0 := fun qf q0 q1 => set_kd (s := qf) q0 q1 hu; have g1 := fun qf q0 => set_up (s := qf) q0 hx; refine GG2 ?_; clear g0 g1)
    refine told [0, 1, 2] (tH t (setUp (setK s (side s z) (s.f z).up x) x (s.f z).up)) (.tup []) ?_ (by decide) ?_ ?_ ?_ rfl ?_ ?_ ?_; iterate 6 (· simp [-List.map_map, embAt, nm, rn_rw, rn_ro, rn_map, rn_iter, rn_dead, renL, Val.ren, wfAll, wn_rw, wn_ro, wn_map, wn_iter, wn_dead, wfL, Val.wf, Env.get, initEnv, tH, TS.cells, encF_ren, encF_wf, fv_ren, fv_wf, fobj_ren, fobj_wf, setUp_root, setK_root])
    exact ⟨rfl, rfl⟩
theorem turn_c (t : TS) (s : Rb) (x : Nat) (d : Bool) (bd : Bnd s t.len) (hx : x < t.len) : SoundM Try.prog 3 53 [.p 0 0, .i .i64 (x : Nat), .i .i64 (dv d)] (tH t s) (Lv t (turn s x d) (.tup [])) := by
  refine sound_told (sound_func Try.func53 c53 rfl (by simp [tH]) ?_)
  have hy := bd.kid hx (!d)
  have hi := bd.kid hy d
  have b1 := bd.hang hy hx
  have d0 := dn_le d
  have d1 := dn_le (!d)
  simp only [e53, tH, TS.cells]
  (have g0 := fun qf q0 => get_kd (f := qf) q0 hx; have g1 := fun qf q0 => get_kd (f := qf) q0 hy; refine GG2 ?_; clear g0 g1)
  (first | ((with_reducible first | apply RunP.call | apply Run.call | apply Run.call0); iterate 2 (· (simp only [go_sem, reduceIte, Nat.reduceEqDiff]; (try with_reducible exact rfl)))) | ((with_reducible first | apply Run.callY | apply RunP.callY); iterate 3 (· (simp only [go_sem, reduceIte, Nat.reduceEqDiff]; (try with_reducible exact rfl)))))
  refine sound_use (hang_c t s _ x bd hy hx) [0, 1, 2] rfl (by decide) ?_ ?_ ?_ ?_ ?_; iterate 4 (· simp [-List.map_map, embAt, nm, rn_rw, rn_ro, rn_map, rn_iter, rn_dead, renL, Val.ren, wfAll, wn_rw, wn_ro, wn_map, wn_iter, wn_dead, wfL, Val.wf, Env.get, initEnv, tH, TS.cells, encF_ren, encF_wf, fv_ren, fv_wf, fobj_ren, fobj_wf])
  rintro v C' ⟨rfl, rfl⟩
  simp only [merge, place, after, nm, MG, Val.ren, renL, rn_rw, rn_ro, rn_map, rn_iter, rn_dead, reduceIte, Nat.reduceLT, Nat.reduceAdd, Nat.reduceSub, Nat.lt_irrefl, Nat.zero_lt_one, Nat.zero_lt_succ, tH, TS.cells, encF_ren, encF_wf, fv_ren, fv_wf, fobj_ren, fobj_wf]
  have e1 := set_kd (s := hang s (kid s.f x (!d)) x) (!d) (kid s.f (kid s.f x (!d)) d) hx
  (have g0 := e1; refine GG1 ?_; clear g0)
  have e : turn s x d = setUp (setK (if kid s.f (kid s.f x (!d)) d = 0 then setK (hang s (kid s.f x (!d)) x) (!d) x (kid s.f (kid s.f x (!d)) d) else setUp (setK (hang s (kid s.f x (!d)) x) (!d) x (kid s.f (kid s.f x (!d)) d)) (kid s.f (kid s.f x (!d)) d) x) d (kid s.f x (!d)) x) x (kid s.f x (!d)) := rfl
  by_cases h0 : kid s.f (kid s.f x (!d)) d = 0
  · rw [if_pos h0] at e
    have hb : ((((kid s.f (kid s.f x (!d)) d) : Nat) : Int) != 0) = false := by simp [h0]
    rw [e]
    (have g0 := hb; have g1 := fun qf q0 q1 => set_kd (s := qf) q0 q1 hy; have g2 := fun qf q0 => set_up (s := qf) q0 hx; refine GG3 ?_; clear g0 g1 g2)
    refine told [0, 1, 2] (tH t (setUp (setK (setK (hang s (kid s.f x (!d)) x) (!d) x (kid s.f (kid s.f x (!d)) d)) d (kid s.f x (!d)) x) x (kid s.f x (!d)))) (.tup []) ?_ (by decide) ?_ ?_ ?_ rfl ?_ ?_ ?_; iterate 6 (· simp [-List.map_map, embAt, nm, rn_rw, rn_ro, rn_map, rn_iter, rn_dead, renL, Val.ren, wfAll, wn_rw, wn_ro, wn_map, wn_iter, wn_dead, wfL, Val.wf, Env.get, initEnv, tH, TS.cells, encF_ren, encF_wf, fv_ren, fv_wf, fobj_ren, fobj_wf, setUp_root, setK_root])
    exact ⟨rfl, rfl⟩
  · rw [if_neg h0] at e
    have hb : ((((kid s.f (kid s.f x (!d)) d) : Nat) : Int) != 0) = true := by simpa using h0
    rw [e]
    (have g0 := hb; have g1 := fun qf q0 q1 => set_kd (s := qf) q0 q1 hy; have g2 := fun qf q0 => set_up (s := qf) q0 hx; have g3 := fun qf q0 => set_up (s := qf) q0 hi; refine GG4 ?_; clear g0 g1 g2 g3)
    refine told [0, 1, 2] (tH t (setUp (setK (setUp (setK (hang s (kid s.f x (!d)) x) (!d) x (kid s.f (kid s.f x (!d)) d)) (kid s.f (kid s.f x (!d)) d) x) d (kid s.f x (!d)) x) x (kid s.f x (!d)))) (.tup []) ?_ (by decide) ?_ ?_ ?_ rfl ?_ ?_ ?_; iterate 6 (· simp [-List.map_map, embAt, nm, rn_rw, rn_ro, rn_map, rn_iter, rn_dead, renL, Val.ren, wfAll, wn_rw, wn_ro, wn_map, wn_iter, wn_dead, wfL, Val.wf, Env.get, initEnv, tH, TS.cells, encF_ren, encF_wf, fv_ren, fv_wf, fobj_ren, fobj_wf, setUp_root, setK_root])
    exact ⟨rfl, rfl⟩
end Go.Proofs.Ytjahkgfihdngkaa.IR
