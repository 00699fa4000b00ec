/- This text of a proof shows: what the calls of a queue come to. -/
import Derived.Test.YtjahkgfihdngkaaGg
import Derived.Test.YtjahkgfihdngkaaFa
set_option linter.unusedVariables false
set_option linter.unusedSimpArgs false
set_option linter.constructorNameAsVariable false
namespace Go.Proofs.Ytjahkgfihdngkaa.IR
open Go Go.Proofs.Ytjahkgfihdngkaa.Ev Go.Proofs.Ytjahkgfihdngkaa.Ev.Rb
set_option linter.unusedSimpArgs false
set_option linter.unusedVariables false
set_option maxHeartbeats 4000000
attribute [local go_sem] skipV nc0 nc1 nc2 nc3 bne_self_eq_false decide_true decide_false IOp.step Opd.ev Env.get initEnv Val.cells? Val.one List.all_cons List.all_nil Bool.and_true Bool.and_self Bool.true_and bin ints eqv Val.kindNo lenNo_s lenNo_nils lenNo_sl lenNo_nilm lenNo_m lenOf_s lenOf_nils lenOf_sl lenOf_nilm unary partsOf padTo List.foldl_cons List.foldl_nil wr_nil wr_step wr_zero List.set_cons_zero List.set_cons_succ List.map_cons List.map_nil z1 z2 Nat.succ_ne_zero List.length_cons List.length_nil List.cons_append List.nil_append List.append_nil List.getElem?_cons_zero List.getElem?_cons_succ List.getElem?_nil Option.map_some Option.map_none Nat.zero_add Nat.add_zero List.drop_zero List.drop_succ_cons List.take_succ_cons List.take_zero List.take_nil and_self and_true true_and Nat.le_refl Bool.not_true Bool.not_false Option.getD_some window Val.slen bnd resV resL RV.val Bool.false_eq_true BEq.rfl Bool.true_beq Bool.false_beq beq_true beq_false mk_one ite_true ite_false eqc ceqs ceq NOp.step isK eq_self
attribute [local go_sem] gV_no
/-- A queue's objects. -/
def fH (q : Fq) : Heap := [.rw [gV q.ro 4 q.row.length 3, .p 1 0, .i .i64 (q.room : Nat)], .rw (q.t.cells q.t.s 2 3), .rw (encF q.t.s.f q.t.len), q.t.fobj, gO q.ro (rowC q.row)]
theorem get_c (t : TS) (L : List (Int × Int × Int)) (h : TR t L) (k : Int × Int) : SoundM Try.prog 3 40 [.p 0 0, .agg [.i .u64 k.1, .i .u64 k.2]] (tH t t.s) (fun v H => (∃ x : Int, v = .tup [.i .i64 x, .b (has k L)]) ∧ H = tH t t.s) := by
  rcases h.find k with ⟨m, x, a, b, hf, hx, hxl, hL, hk⟩ | ⟨m, last, hf, hk⟩
  · have hh : has k L = true := has_iff.2 ⟨_, by rw [hL]; simp, hk⟩
    refine (get_c0 t t.s k _ m h.bd hf hxl).mono ?_
    rintro v H ⟨rfl, rfl⟩
    rw [if_neg hx, hh]; exact ⟨⟨_, rfl⟩, rfl⟩
  · have hh : has k L = false := by
      have : ¬ has k L = true := by rw [has_iff]; rintro ⟨y, hy, e⟩; exact hk y hy e
      simpa using this
    refine (get_c0 t t.s k _ m h.bd hf h.bd.pos).mono ?_
    rintro v H ⟨rfl, rfl⟩
    rw [if_pos rfl, hh]; exact ⟨⟨_, rfl⟩, rfl⟩
def firstV : List (Int × Int × Int) → Val
  | [] => .tup [ent (0, 0, 0), .b false]
  | y :: _ => .tup [ent y, .b true]
theorem first_c (t : TS) (L : List (Int × Int × Int)) (h : TR t L) : SoundM Try.prog 3 45 [.p 0 0] (tH t t.s) (fun v H => v = firstV L ∧ H = tH t t.s) := by
  rcases h.first with ⟨rfl, h0⟩ | ⟨m, r, l, h0, hm, hr, hrl, rfl⟩
  · refine (first_c0 t t.s 0 0 h.bd (by rw [if_pos h0])).mono ?_
    rintro v H ⟨rfl, rfl⟩
    exact ⟨rfl, rfl⟩
  · refine (first_c0 t t.s r m h.bd (by rw [if_neg h0]; exact ⟨hm, hr⟩)).mono ?_
    rintro v H ⟨rfl, rfl⟩
    rw [if_neg hr]; exact ⟨rfl, rfl⟩
theorem fnone_c (q : Fq) (hg : gC q.ro) : SoundM Try.prog 5 26 [.p 0 0] (fH q) (fun v H => v = .b false ∧ H = fH q) := by
  refine sound_told (sound_func Try.func26 c26 rfl (by simp [fH]) ?_)
  simp only [e26, fH, TS.cells]
  refine GG0 ?_
  refine told [0, 1, 2, 3, 4] (fH q) (.b false) ?_ (by decide) ?_ ?_ ?_ rfl ?_ ?_ ?_; iterate 6 (· simp [-List.map_map, embAt, nm, rn_rw, rn_ro, rn_map, rn_iter, rn_dead, renL, Val.ren, wfAll, wn_rw, wn_ro, wn_map, wn_iter, wn_dead, wfL, Val.wf, Env.get, initEnv, tH, fH, TS.cells, encF_ren, encF_wf, fv_ren, fv_wf, fobj_ren, fobj_wf, gV_ren, gV_wf, gOr_ren, gOr_wf, hg])
  exact ⟨rfl, rfl⟩
theorem flen_c (q : Fq) (M : List (Int × Int × Int)) (h : FR q M) : SoundM Try.prog 5 18 [.p 0 0] (fH q) (fun v H => v = .i .i64 (M.length : Nat) ∧ H = fH q) := by
  refine sound_told (sound_func Try.func18 c18 rfl (by simp [fH]) ?_)
  have hg := h.gc
  have hn := h.none
  have hlen := h.len
  have hle := h.rlen
  have hm := h.tr.many
  have hmb : q.t.many ≤ 65536 := by have := h.tr.le; have := h.tr.room; omega
  simp only [e18, fH, TS.cells]
  refine GG0 ?_
  (first | ((with_reducible first | apply RunP.call | apply Run.call | apply Run.call0); iterate 2 (· (simp only [go_sem, reduceIte, Nat.reduceEqDiff]; (try with_reducible exact rfl)))) | ((with_reducible first | apply Run.callY | apply RunP.callY); iterate 3 (· (simp only [go_sem, reduceIte, Nat.reduceEqDiff]; (try with_reducible exact rfl)))))
  refine sound_use (fnone_c q hg) [0, 1, 2, 3, 4] rfl (by decide) ?_ ?_ ?_ ?_ ?_; iterate 4 (· simp [-List.map_map, embAt, nm, rn_rw, rn_ro, rn_map, rn_iter, rn_dead, renL, Val.ren, wfAll, wn_rw, wn_ro, wn_map, wn_iter, wn_dead, wfL, Val.wf, Env.get, initEnv, tH, fH, TS.cells, encF_ren, encF_wf, fv_ren, fv_wf, fobj_ren, fobj_wf, gV_ren, gV_wf, gOr_ren, gOr_wf, hg])
  rintro v C' ⟨rfl, rfl⟩
  simp only [merge, place, after, nm, MG, Val.ren, renL, rn_rw, rn_ro, rn_map, rn_iter, rn_dead, reduceIte, Nat.reduceLT, Nat.reduceAdd, Nat.reduceSub, Nat.lt_irrefl, Nat.zero_lt_one, Nat.zero_lt_succ, tH, fH, TS.cells, encF_ren, encF_wf, fv_ren, fv_wf, fobj_ren, fobj_wf, gV_ren, gV_wf, gOr_ren, gOr_wf, hg]
  (have g0 := gV_len hn; refine GG1 ?_; clear g0)
  (first | ((with_reducible first | apply RunP.call | apply Run.call | apply Run.call0); iterate 2 (· (simp only [go_sem, reduceIte, Nat.reduceEqDiff]; (try with_reducible exact rfl)))) | ((with_reducible first | apply Run.callY | apply RunP.callY); iterate 3 (· (simp only [go_sem, reduceIte, Nat.reduceEqDiff]; (try with_reducible exact rfl)))))
  refine sound_use (tlen_c q.t q.t.s) [1, 2, 3] rfl (by decide) ?_ ?_ ?_ ?_ ?_; iterate 4 (· simp [-List.map_map, embAt, nm, rn_rw, rn_ro, rn_map, rn_iter, rn_dead, renL, Val.ren, wfAll, wn_rw, wn_ro, wn_map, wn_iter, wn_dead, wfL, Val.wf, Env.get, initEnv, tH, fH, TS.cells, encF_ren, encF_wf, fv_ren, fv_wf, fobj_ren, fobj_wf, gV_ren, gV_wf, gOr_ren, gOr_wf, hg])
  rintro v C' ⟨rfl, rfl⟩
  simp only [merge, place, after, nm, MG, Val.ren, renL, rn_rw, rn_ro, rn_map, rn_iter, rn_dead, reduceIte, Nat.reduceLT, Nat.reduceAdd, Nat.reduceSub, Nat.lt_irrefl, Nat.zero_lt_one, Nat.zero_lt_succ, tH, fH, TS.cells, encF_ren, encF_wf, fv_ren, fv_wf, fobj_ren, fobj_wf, gV_ren, gV_wf, gOr_ren, gOr_wf, hg]
  (first | refine And.intro rfl ?_ | refine And.intro trivial ?_ | skip)
  refine GG0 ?_
  refine told [0, 1, 2, 3, 4] (fH q) (.i .i64 ((q.row.length : Nat) + (q.t.many : Nat))) ?_ (by decide) ?_ ?_ ?_ rfl ?_ ?_ ?_; iterate 6 (· simp [-List.map_map, embAt, nm, rn_rw, rn_ro, rn_map, rn_iter, rn_dead, renL, Val.ren, wfAll, wn_rw, wn_ro, wn_map, wn_iter, wn_dead, wfL, Val.wf, Env.get, initEnv, tH, fH, TS.cells, encF_ren, encF_wf, fv_ren, fv_wf, fobj_ren, fobj_wf, gV_ren, gV_wf, gOr_ren, gOr_wf, hg])
  refine ⟨?_, rfl⟩
  rw [hlen, ← hm, Int.natCast_add]
theorem fhas_c (q : Fq) (M : List (Int × Int × Int)) (h : FR q M) (k : Int × Int) : SoundM Try.prog 5 27 [.p 0 0, .agg [.i .u64 k.1, .i .u64 k.2]] (fH q) (fun v H => v = .b (has k M) ∧ H = fH q) := by
  refine sound_told (sound_func Try.func27 c27 rfl (by simp [fH]) ?_)
  have hg := h.gc
  have hn := h.none
  have hmem : has k M = (has k q.row || has k q.L) := by
    have := h.mem (k := k)
    rw [← has_iff, ← has_iff, ← has_iff] at this
    cases a : has k M <;> cases b : has k q.row <;> cases c : has k q.L <;> simp_all
  simp only [e27, fH, TS.cells]
  refine GG0 ?_
  (first | ((with_reducible first | apply RunP.call | apply Run.call | apply Run.call0); iterate 2 (· (simp only [go_sem, reduceIte, Nat.reduceEqDiff]; (try with_reducible exact rfl)))) | ((with_reducible first | apply Run.callY | apply RunP.callY); iterate 3 (· (simp only [go_sem, reduceIte, Nat.reduceEqDiff]; (try with_reducible exact rfl)))))
  refine sound_use (bsearch_c q.ro q.row k hg hn h.rlen h.rs) [4] rfl (by decide) ?_ ?_ ?_ ?_ ?_; iterate 4 (· simp [-List.map_map, embAt, nm, rn_rw, rn_ro, rn_map, rn_iter, rn_dead, renL, Val.ren, wfAll, wn_rw, wn_ro, wn_map, wn_iter, wn_dead, wfL, Val.wf, Env.get, initEnv, tH, fH, TS.cells, encF_ren, encF_wf, fv_ren, fv_wf, fobj_ren, fobj_wf, gV_ren, gV_wf, gOr_ren, gOr_wf, hg])
  rintro v C' ⟨⟨i, rfl⟩, rfl⟩
  simp only [merge, place, after, nm, MG, Val.ren, renL, rn_rw, rn_ro, rn_map, rn_iter, rn_dead, reduceIte, Nat.reduceLT, Nat.reduceAdd, Nat.reduceSub, Nat.lt_irrefl, Nat.zero_lt_one, Nat.zero_lt_succ, tH, fH, TS.cells, encF_ren, encF_wf, fv_ren, fv_wf, fobj_ren, fobj_wf, gV_ren, gV_wf, gOr_ren, gOr_wf, hg]
  (first | refine And.intro rfl ?_ | refine And.intro trivial ?_ | skip)
  by_cases hr : has k q.row = true
  · rw [hmem, hr, Bool.true_or]
    refine GG0 ?_
    refine told [0, 1, 2, 3, 4] (fH q) (.b true) ?_ (by decide) ?_ ?_ ?_ rfl ?_ ?_ ?_; iterate 6 (· simp [-List.map_map, embAt, nm, rn_rw, rn_ro, rn_map, rn_iter, rn_dead, renL, Val.ren, wfAll, wn_rw, wn_ro, wn_map, wn_iter, wn_dead, wfL, Val.wf, Env.get, initEnv, tH, fH, TS.cells, encF_ren, encF_wf, fv_ren, fv_wf, fobj_ren, fobj_wf, gV_ren, gV_wf, gOr_ren, gOr_wf, hg])
    exact ⟨rfl, rfl⟩
  · have hr' : has k q.row = false := by simpa using hr
    rw [hmem, hr', Bool.false_or]
    refine GG0 ?_
    (first | ((with_reducible first | apply RunP.call | apply Run.call | apply Run.call0); iterate 2 (· (simp only [go_sem, reduceIte, Nat.reduceEqDiff]; (try with_reducible exact rfl)))) | ((with_reducible first | apply Run.callY | apply RunP.callY); iterate 3 (· (simp only [go_sem, reduceIte, Nat.reduceEqDiff]; (try with_reducible exact rfl)))))
    refine sound_use (get_c q.t q.L h.tr k) [1, 2, 3] rfl (by decide) ?_ ?_ ?_ ?_ ?_; iterate 4 (· simp [-List.map_map, embAt, nm, rn_rw, rn_ro, rn_map, rn_iter, rn_dead, renL, Val.ren, wfAll, wn_rw, wn_ro, wn_map, wn_iter, wn_dead, wfL, Val.wf, Env.get, initEnv, tH, fH, TS.cells, encF_ren, encF_wf, fv_ren, fv_wf, fobj_ren, fobj_wf, gV_ren, gV_wf, gOr_ren, gOr_wf, hg])
    rintro v C' ⟨⟨x, rfl⟩, rfl⟩
    simp only [merge, place, after, nm, MG, Val.ren, renL, rn_rw, rn_ro, rn_map, rn_iter, rn_dead, reduceIte, Nat.reduceLT, Nat.reduceAdd, Nat.reduceSub, Nat.lt_irrefl, Nat.zero_lt_one, Nat.zero_lt_succ, tH, fH, TS.cells, encF_ren, encF_wf, fv_ren, fv_wf, fobj_ren, fobj_wf, gV_ren, gV_wf, gOr_ren, gOr_wf, hg]
    (first | refine And.intro rfl ?_ | refine And.intro trivial ?_ | skip)
    refine GG0 ?_
    refine told [0, 1, 2, 3, 4] (fH q) (.b (has k q.L)) ?_ (by decide) ?_ ?_ ?_ rfl ?_ ?_ ?_; iterate 6 (· simp [-List.map_map, embAt, nm, rn_rw, rn_ro, rn_map, rn_iter, rn_dead, renL, Val.ren, wfAll, wn_rw, wn_ro, wn_map, wn_iter, wn_dead, wfL, Val.wf, Env.get, initEnv, tH, fH, TS.cells, encF_ren, encF_wf, fv_ren, fv_wf, fobj_ren, fobj_wf, gV_ren, gV_wf, gOr_ren, gOr_wf, hg])
    exact ⟨rfl, rfl⟩
def kv (k : Int × Int) : Val := .agg [.i .u64 k.1, .i .u64 k.2]
/-- What a call leaves of a queue. -/
def FPost' (q : Fq) (r : Val) (M : List (Int × Int × Int)) (v : Val) (H : Heap) : Prop := v = r ∧ ∃ q' : Fq, FR q' M ∧ q'.room = q.room ∧ H = fH q'
theorem push_c (q : Fq) (M : List (Int × Int × Int)) (h : FR q M) (k : Int × Int) (v : Int) (hv : 0 ≤ v ∧ v ≤ 18446744073709551615) :
    SoundM Try.prog 1 12 [.p 0 0, .i .u64 v, .agg [.i .u64 k.1, .i .u64 k.2]] (fH q) (FPost' q (.i .i64 (putE k v q.room M).1) (putE k v q.room M).2) := by
  refine sound_told (sound_func Try.func12 c12 rfl (by simp [fH]) ?_)
  have hg := h.gc
  have hn := h.none
  have hle := h.le
  have hrl := h.rlen
  simp only [e12, fH, TS.cells]
  refine GG0 ?_
  (first | ((with_reducible first | apply RunP.call | apply Run.call | apply Run.call0); iterate 2 (· (simp only [go_sem, reduceIte, Nat.reduceEqDiff]; (try with_reducible exact rfl)))) | ((with_reducible first | apply Run.callY | apply RunP.callY); iterate 3 (· (simp only [go_sem, reduceIte, Nat.reduceEqDiff]; (try with_reducible exact rfl)))))
  refine sound_use (fnone_c q hg) [0, 1, 2, 3, 4] rfl (by decide) ?_ ?_ ?_ ?_ ?_; iterate 4 (· simp [-List.map_map, embAt, nm, rn_rw, rn_ro, rn_map, rn_iter, rn_dead, renL, Val.ren, wfAll, wn_rw, wn_ro, wn_map, wn_iter, wn_dead, wfL, Val.wf, Env.get, initEnv, tH, fH, TS.cells, encF_ren, encF_wf, fv_ren, fv_wf, fobj_ren, fobj_wf, gV_ren, gV_wf, gOr_ren, gOr_wf, hg])
  rintro v' C' ⟨rfl, rfl⟩
  simp only [merge, place, after, nm, MG, Val.ren, renL, rn_rw, rn_ro, rn_map, rn_iter, rn_dead, reduceIte, Nat.reduceLT, Nat.reduceAdd, Nat.reduceSub, Nat.lt_irrefl, Nat.zero_lt_one, Nat.zero_lt_succ, tH, fH, TS.cells, encF_ren, encF_wf, fv_ren, fv_wf, fobj_ren, fobj_wf, gV_ren, gV_wf, gOr_ren, gOr_wf, hg]
  refine GG0 ?_
  (first | ((with_reducible first | apply RunP.call | apply Run.call | apply Run.call0); iterate 2 (· (simp only [go_sem, reduceIte, Nat.reduceEqDiff]; (try with_reducible exact rfl)))) | ((with_reducible first | apply Run.callY | apply RunP.callY); iterate 3 (· (simp only [go_sem, reduceIte, Nat.reduceEqDiff]; (try with_reducible exact rfl)))))
  refine sound_use (fhas_c q M h k) [0, 1, 2, 3, 4] rfl (by decide) ?_ ?_ ?_ ?_ ?_; iterate 4 (· simp [-List.map_map, embAt, nm, rn_rw, rn_ro, rn_map, rn_iter, rn_dead, renL, Val.ren, wfAll, wn_rw, wn_ro, wn_map, wn_iter, wn_dead, wfL, Val.wf, Env.get, initEnv, tH, fH, TS.cells, encF_ren, encF_wf, fv_ren, fv_wf, fobj_ren, fobj_wf, gV_ren, gV_wf, gOr_ren, gOr_wf, hg])
  rintro v' C' ⟨rfl, rfl⟩
  simp only [merge, place, after, nm, MG, Val.ren, renL, rn_rw, rn_ro, rn_map, rn_iter, rn_dead, reduceIte, Nat.reduceLT, Nat.reduceAdd, Nat.reduceSub, Nat.lt_irrefl, Nat.zero_lt_one, Nat.zero_lt_succ, tH, fH, TS.cells, encF_ren, encF_wf, fv_ren, fv_wf, fobj_ren, fobj_wf, gV_ren, gV_wf, gOr_ren, gOr_wf, hg]
  by_cases hh : has k M = true
  · rw [show putE k v q.room M = (60, M) by simp only [putE]; rw [if_pos hh], hh]
    refine GG0 ?_
    refine told [0, 1, 2, 3, 4] (fH q) (.i .i64 60) ?_ (by decide) ?_ ?_ ?_ rfl ?_ ?_ ?_; iterate 6 (· simp [-List.map_map, embAt, nm, rn_rw, rn_ro, rn_map, rn_iter, rn_dead, renL, Val.ren, wfAll, wn_rw, wn_ro, wn_map, wn_iter, wn_dead, wfL, Val.wf, Env.get, initEnv, tH, fH, TS.cells, encF_ren, encF_wf, fv_ren, fv_wf, fobj_ren, fobj_wf, gV_ren, gV_wf, gOr_ren, gOr_wf, hg])
    exact ⟨rfl, q, h, rfl, rfl⟩
  · have hh' : has k M = false := by simpa using hh
    have hk : ∀ y ∈ M, ekey y ≠ k := fun y hy e => hh (has_iff.2 ⟨y, hy, e⟩)
    rw [hh']
    refine GG0 ?_
    (first | ((with_reducible first | apply RunP.call | apply Run.call | apply Run.call0); iterate 2 (· (simp only [go_sem, reduceIte, Nat.reduceEqDiff]; (try with_reducible exact rfl)))) | ((with_reducible first | apply Run.callY | apply RunP.callY); iterate 3 (· (simp only [go_sem, reduceIte, Nat.reduceEqDiff]; (try with_reducible exact rfl)))))
    refine sound_use (flen_c q M h) [0, 1, 2, 3, 4] rfl (by decide) ?_ ?_ ?_ ?_ ?_; iterate 4 (· simp [-List.map_map, embAt, nm, rn_rw, rn_ro, rn_map, rn_iter, rn_dead, renL, Val.ren, wfAll, wn_rw, wn_ro, wn_map, wn_iter, wn_dead, wfL, Val.wf, Env.get, initEnv, tH, fH, TS.cells, encF_ren, encF_wf, fv_ren, fv_wf, fobj_ren, fobj_wf, gV_ren, gV_wf, gOr_ren, gOr_wf, hg])
    rintro v' C' ⟨rfl, rfl⟩
    simp only [merge, place, after, nm, MG, Val.ren, renL, rn_rw, rn_ro, rn_map, rn_iter, rn_dead, reduceIte, Nat.reduceLT, Nat.reduceAdd, Nat.reduceSub, Nat.lt_irrefl, Nat.zero_lt_one, Nat.zero_lt_succ, tH, fH, TS.cells, encF_ren, encF_wf, fv_ren, fv_wf, fobj_ren, fobj_wf, gV_ren, gV_wf, gOr_ren, gOr_wf, hg]
    (first | refine And.intro rfl ?_ | refine And.intro trivial ?_ | skip)
    by_cases hf : M.length = q.room
    · have hb : ((M.length : Nat) : Int) ≥ ((q.room : Nat) : Int) := by omega
      rw [show putE k v q.room M = (4, M) by simp only [putE]; rw [if_neg hh, if_pos hf]]
      (have g0 := decide_t hb; refine GG1 ?_; clear g0)
      refine told [0, 1, 2, 3, 4] (fH q) (.i .i64 4) ?_ (by decide) ?_ ?_ ?_ rfl ?_ ?_ ?_; iterate 6 (· simp [-List.map_map, embAt, nm, rn_rw, rn_ro, rn_map, rn_iter, rn_dead, renL, Val.ren, wfAll, wn_rw, wn_ro, wn_map, wn_iter, wn_dead, wfL, Val.wf, Env.get, initEnv, tH, fH, TS.cells, encF_ren, encF_wf, fv_ren, fv_wf, fobj_ren, fobj_wf, gV_ren, gV_wf, gOr_ren, gOr_wf, hg])
      exact ⟨rfl, q, h, rfl, rfl⟩
    · have hb : ¬ ((M.length : Nat) : Int) ≥ ((q.room : Nat) : Int) := by omega
      have hroom : M.length < q.room := by omega
      rw [show putE k v q.room M = (0, ins (k.1, k.2, v) M) by simp only [putE]; rw [if_neg hh, if_neg hf]]
      (have g0 := decide_f hb; have g1 := gV_len hn; refine GG2 ?_; clear g0 g1)
      have hc : (rowC q.row).length = q.row.length * 3 := rowC_length _
      rcases hrow : q.row.getLast? with _ | x
      · have hre : q.row = [] := by simpa using hrow
        have hz : ¬ (((q.row.length : Nat) : Int) > 0) := by rw [hre]; simp
        rw [decide_f hz]
        (have g0 := gV_len hn; refine GG1 ?_; clear g0)
        (refine Aa ((gApp (sz := 3) (o := q.ro) (c := rowC q.row) (new := itC (k.1, k.2, v)) (id := 4) (j := 6) (n := q.row.length) (by (simp only [go_sem, reduceIte, Nat.reduceEqDiff]; (try with_reducible exact rfl)); all_goals rfl) (by first | rfl | (rw [gO_new]; rfl)) (by first | assumption | simp [nums]) (by first | assumption | exact fun e => absurd e gNew_ne | simp_all) (by (simp only [go_sem, reduceIte, Nat.reduceEqDiff]; (try with_reducible exact rfl))) rfl rfl (by omega)).trans (by simp only [List.set_cons_succ, List.set_cons_zero, List.cons_append, List.nil_append, List.length_cons, List.length_nil, Nat.reduceAdd]; exact rfl)) ?_)
        repeat (first
    | ((first | (with_reducible first | apply Aa | apply Ab | apply Ac | apply Ad | apply Ae | apply Af | apply Na | apply Nb) | ((with_reducible first | apply Ag | apply Ah | apply Nc); · (simp only [go_sem, reduceIte, Nat.reduceEqDiff, gV_new]; (try with_reducible exact rfl)))); · (simp only [go_sem, Int.reduceBEq, Int.reduceBNe, Int.reduceLT, Int.reduceLE, Int.reduceAdd, Int.reduceSub, Int.reduceToNat, reduceIte, Nat.reduceEqDiff, Nat.reduceAdd, Nat.reduceMul, Nat.reduceLeDiff, Nat.reduceSub, reduceCtorEq, gV_new]; (try simp (disch := omega) only [OM, mn_lo, mn_hi, mx_lo, mx_hi, if_yes, if_no, Option.map_some, gV_new]); (try with_reducible exact rfl)))
    | ((with_reducible first | apply Ba | apply Bb | apply Bc | apply Bd | apply Be | apply Nd); · (simp only [go_sem, reduceIte, Nat.reduceEqDiff, gV_new]; (try with_reducible exact rfl))) | ((with_reducible first | apply Ca | apply Cb | apply Cc | apply Cd | apply Ce | apply Ne); · (simp only [go_sem, reduceIte, Nat.reduceEqDiff, gV_new]; (try with_reducible exact rfl)))
    | ((with_reducible first | apply Dg | apply Dh); (· decide +kernel); (· (simp only [inOrd, List.getElem?_cons_succ, List.getElem?_cons_zero]; exact rfl)))
    | ((with_reducible first | apply De | apply Df); (· decide +kernel); (· (simp only [inOrd, List.getElem?_cons_succ, List.getElem?_cons_zero]; exact rfl)))
    | (with_reducible first | apply Ea | apply Eb | apply Ec | apply Ed | apply Ee | apply Ef | apply Eg | apply Eh | apply Ei | apply Ej | apply Ek | apply El | apply Em | apply En | apply Eo) | ((with_reducible apply Ep); · rfl))
        have eh : fH { q with row := q.row ++ [(k.1, k.2, v)], ro := gNew } = [.rw [gV gNew 4 (q.row.length + 1) 3, .p 1 0, .i .i64 (q.room : Nat)], .rw (q.t.cells q.t.s 2 3), .rw (encF q.t.s.f q.t.len), q.t.fobj, gO gNew (rowC (q.row ++ [(k.1, k.2, v)]))] := by
          simp only [fH, List.length_append, List.length_singleton]
        refine told [0, 1, 2, 3, 7] (fH { q with row := q.row ++ [(k.1, k.2, v)], ro := gNew }) (.i .i64 0) ?_ (by decide) ?_ ?_ ?_ rfl ?_ ?_ ?_; iterate 6 (· simp [-List.map_map, embAt, nm, rn_rw, rn_ro, rn_map, rn_iter, rn_dead, renL, Val.ren, wfAll, wn_rw, wn_ro, wn_map, wn_iter, wn_dead, wfL, Val.wf, Env.get, initEnv, eh, TS.cells, encF_ren, encF_wf, fv_ren, fv_wf, fobj_ren, fobj_wf, gV_new, gOr_ren, gOr_wf, gC_new, rowC_snoc])
        exact ⟨rfl, _, h.app hv hk (fun x hx => by rw [hx] at hrow; cases hrow) hroom, rfl, rfl⟩
      · obtain ⟨hne, hrl2⟩ := List.getLast?_eq_some_iff.1 hrow
        have hpos : 0 < q.row.length := by rw [hrl2]; simp
        have hz : (((q.row.length : Nat) : Int) > 0) := by omega
        have hx : q.row[q.row.length - 1]? = some x := by rw [← List.getLast?_eq_getElem?]; exact hrow
        have e1 : (((q.row.length : Nat) : Int) - 1).toNat = q.row.length - 1 := by omega
        rcases hro : q.ro with _ | ⟨a, b⟩
        · exact absurd (hn hro) (by omega)
        rw [hro] at hg hn
        obtain ⟨w1, w2, w3, w4⟩ := row_win hx a b
        simp only [gV_some, gO_some]
        rw [decide_t hz]
        (have g0 := e1; have g1 := w2; refine GG2 ?_; clear g0 g1)
        (first | ((with_reducible first | apply RunP.call | apply Run.call | apply Run.call0); iterate 2 (· (simp only [go_sem, reduceIte, Nat.reduceEqDiff]; (try with_reducible exact rfl)))) | ((with_reducible first | apply Run.callY | apply RunP.callY); iterate 3 (· (simp only [go_sem, reduceIte, Nat.reduceEqDiff]; (try with_reducible exact rfl)))))
        refine (fless_ok _ _ _ _ _).mono ?_
        rintro v' H' ⟨rfl, rfl⟩
        (first | refine And.intro rfl ?_ | refine And.intro trivial ?_ | skip)
        by_cases hl : klt k (ekey x)
        · have hkL : ¬ has k q.L = true := by
            intro e; obtain ⟨y, hy, e'⟩ := has_iff.1 e
            exact hh (has_iff.2 (h.mem.2 (.inr ⟨y, hy, e'⟩)))
          have hmany : q.L.length ≠ q.t.room := by have := h.len; have := h.troom; omega
          have hput := put_c q.t q.L h.tr k (IntKind.i64.wrap v)
          rw [show putE k (IntKind.i64.wrap v) q.t.room q.L = (0, ins (k.1, k.2, IntKind.i64.wrap v) q.L) by simp only [putE]; rw [if_neg hkL, if_neg hmany]] at hput
          (have g0 := decide_t (show klt (k.1, k.2) (x.1, x.2.1) from hl); refine GG1 ?_; clear g0)
          (first | ((with_reducible first | apply RunP.call | apply Run.call | apply Run.call0); iterate 2 (· (simp only [go_sem, reduceIte, Nat.reduceEqDiff]; (try with_reducible exact rfl)))) | ((with_reducible first | apply Run.callY | apply RunP.callY); iterate 3 (· (simp only [go_sem, reduceIte, Nat.reduceEqDiff]; (try with_reducible exact rfl)))))
          refine sound_use (hput) [1, 2, 3] rfl (by decide) ?_ ?_ ?_ ?_ ?_; iterate 4 (· simp [-List.map_map, embAt, nm, rn_rw, rn_ro, rn_map, rn_iter, rn_dead, renL, Val.ren, wfAll, wn_rw, wn_ro, wn_map, wn_iter, wn_dead, wfL, Val.wf, Env.get, initEnv, tH, fH, TS.cells, encF_ren, encF_wf, fv_ren, fv_wf, fobj_ren, fobj_wf, gV_ren, gV_wf, gOr_ren, gOr_wf, hg])
          rintro v' C' ⟨rfl, t', ht, htr, rfl⟩
          simp only [merge, place, after, nm, MG, Val.ren, renL, rn_rw, rn_ro, rn_map, rn_iter, rn_dead, reduceIte, Nat.reduceLT, Nat.reduceAdd, Nat.reduceSub, Nat.lt_irrefl, Nat.zero_lt_one, Nat.zero_lt_succ, tH, fH, TS.cells, encF_ren, encF_wf, fv_ren, fv_wf, fobj_ren, fobj_wf, gV_ren, gV_wf, gOr_ren, gOr_wf, hg]
          (first | refine And.intro rfl ?_ | refine And.intro trivial ?_ | skip)
          refine GG0 ?_
          have hg' : gC q.ro := h.gc
          have eh : fH { q with t := t', L := ins (k.1, k.2, IntKind.i64.wrap v) q.L } = [.rw [.sl 4 a.length q.row.length 3, .p 1 0, .i .i64 (q.room : Nat)], .rw (t'.cells t'.s 2 3), .rw (encF t'.s.f t'.len), t'.fobj, .rw (a ++ (rowC q.row ++ b))] := by
            simp only [fH, hro, gV_some, gO_some]
          refine told [0, 1, 6, 7, 4] (fH { q with t := t', L := ins (k.1, k.2, IntKind.i64.wrap v) q.L }) (.i .i64 0) ?_ (by decide) ?_ ?_ ?_ rfl ?_ ?_ ?_; iterate 6 (· simp [-List.map_map, embAt, nm, rn_rw, rn_ro, rn_map, rn_iter, rn_dead, renL, Val.ren, wfAll, wn_rw, wn_ro, wn_map, wn_iter, wn_dead, wfL, Val.wf, Env.get, initEnv, eh, TS.cells, encF_ren, encF_wf, fv_ren, fv_wf, fobj_ren, fobj_wf, renL_append, wfL_append, rowC_ren, rowC_wf, hg.1, hg.2.1, hg.2.2.1, hg.2.2.2])
          exact ⟨rfl, _, h.late hv hk hroom ht htr, rfl, rfl⟩
        · have hq : q.row.getLast? = some x := hrow
          clear w1 w2 w3 w4
          (have g0 := decide_f (show ¬ klt (k.1, k.2) (x.1, x.2.1) from hl); refine GG1 ?_; clear g0)
          (refine Aa ((gApp (sz := 3) (o := (some (a, b))) (c := rowC q.row) (new := itC (k.1, k.2, v)) (id := 4) (j := 6) (n := q.row.length) (by (simp only [go_sem, reduceIte, Nat.reduceEqDiff]; (try with_reducible exact rfl)); all_goals rfl) (by first | rfl | (rw [gO_new]; rfl)) (by first | assumption | simp [nums]) (by first | assumption | exact fun e => absurd e gNew_ne | simp_all) (by (simp only [go_sem, reduceIte, Nat.reduceEqDiff]; (try with_reducible exact rfl))) rfl rfl (by omega)).trans (by simp only [List.set_cons_succ, List.set_cons_zero, List.cons_append, List.nil_append, List.length_cons, List.length_nil, Nat.reduceAdd]; exact rfl)) ?_)
          repeat (first
    | ((first | (with_reducible first | apply Aa | apply Ab | apply Ac | apply Ad | apply Ae | apply Af | apply Na | apply Nb) | ((with_reducible first | apply Ag | apply Ah | apply Nc); · (simp only [go_sem, reduceIte, Nat.reduceEqDiff, gV_new]; (try with_reducible exact rfl)))); · (simp only [go_sem, Int.reduceBEq, Int.reduceBNe, Int.reduceLT, Int.reduceLE, Int.reduceAdd, Int.reduceSub, Int.reduceToNat, reduceIte, Nat.reduceEqDiff, Nat.reduceAdd, Nat.reduceMul, Nat.reduceLeDiff, Nat.reduceSub, reduceCtorEq, gV_new]; (try simp (disch := omega) only [OM, mn_lo, mn_hi, mx_lo, mx_hi, if_yes, if_no, Option.map_some, gV_new]); (try with_reducible exact rfl)))
    | ((with_reducible first | apply Ba | apply Bb | apply Bc | apply Bd | apply Be | apply Nd); · (simp only [go_sem, reduceIte, Nat.reduceEqDiff, gV_new]; (try with_reducible exact rfl))) | ((with_reducible first | apply Ca | apply Cb | apply Cc | apply Cd | apply Ce | apply Ne); · (simp only [go_sem, reduceIte, Nat.reduceEqDiff, gV_new]; (try with_reducible exact rfl)))
    | ((with_reducible first | apply Dg | apply Dh); (· decide +kernel); (· (simp only [inOrd, List.getElem?_cons_succ, List.getElem?_cons_zero]; exact rfl)))
    | ((with_reducible first | apply De | apply Df); (· decide +kernel); (· (simp only [inOrd, List.getElem?_cons_succ, List.getElem?_cons_zero]; exact rfl)))
    | (with_reducible first | apply Ea | apply Eb | apply Ec | apply Ed | apply Ee | apply Ef | apply Eg | apply Eh | apply Ei | apply Ej | apply Ek | apply El | apply Em | apply En | apply Eo) | ((with_reducible apply Ep); · rfl))
          have eh : fH { q with row := q.row ++ [(k.1, k.2, v)], ro := gNew } = [.rw [gV gNew 4 (q.row.length + 1) 3, .p 1 0, .i .i64 (q.room : Nat)], .rw (q.t.cells q.t.s 2 3), .rw (encF q.t.s.f q.t.len), q.t.fobj, gO gNew (rowC (q.row ++ [(k.1, k.2, v)]))] := by
            simp only [fH, List.length_append, List.length_singleton]
          refine told [0, 1, 2, 3, 7] (fH { q with row := q.row ++ [(k.1, k.2, v)], ro := gNew }) (.i .i64 0) ?_ (by decide) ?_ ?_ ?_ rfl ?_ ?_ ?_; iterate 6 (· simp [-List.map_map, embAt, nm, rn_rw, rn_ro, rn_map, rn_iter, rn_dead, renL, Val.ren, wfAll, wn_rw, wn_ro, wn_map, wn_iter, wn_dead, wfL, Val.wf, Env.get, initEnv, eh, TS.cells, encF_ren, encF_wf, fv_ren, fv_wf, fobj_ren, fobj_wf, gV_new, gOr_ren, gOr_wf, gC_new, rowC_snoc])
          exact ⟨rfl, _, h.app hv hk (fun y hy => by rw [hq] at hy; cases hy; exact hl) hroom, rfl, rfl⟩
end Go.Proofs.Ytjahkgfihdngkaa.IR
