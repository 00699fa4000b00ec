/- This text of a proof shows: what a queue is behind calls. -/
import Derived.Test.YtjahkgfihdngkaaGg
import Derived.Test.YtjahkgfihdngkaaFc
import Derived.Test.YtjahkgfihdngkaaS11
set_option linter.unusedVariables false
set_option linter.unusedSimpArgs false
set_option linter.constructorNameAsVariable false
namespace Go.Proofs.Ytjahkgfihdngkaa.IR
open Go Go.Proofs.Ytjahkgfihdngkaa.Ev Go.Proofs.Ytjahkgfihdngkaa.Ev.Rb
set_option linter.unusedSimpArgs false
set_option linter.unusedVariables false
set_option maxHeartbeats 4000000
attribute [local go_sem] skipV nc0 nc1 nc2 nc3 bne_self_eq_false decide_true decide_false IOp.step Opd.ev Env.get initEnv Val.cells? Val.one List.all_cons List.all_nil Bool.and_true Bool.and_self Bool.true_and bin ints eqv Val.kindNo lenNo_s lenNo_nils lenNo_sl lenNo_nilm lenNo_m lenOf_s lenOf_nils lenOf_sl lenOf_nilm unary partsOf padTo List.foldl_cons List.foldl_nil wr_nil wr_step wr_zero List.set_cons_zero List.set_cons_succ List.map_cons List.map_nil z1 z2 Nat.succ_ne_zero List.length_cons List.length_nil List.cons_append List.nil_append List.append_nil List.getElem?_cons_zero List.getElem?_cons_succ List.getElem?_nil Option.map_some Option.map_none Nat.zero_add Nat.add_zero List.drop_zero List.drop_succ_cons List.take_succ_cons List.take_zero List.take_nil and_self and_true true_and Nat.le_refl Bool.not_true Bool.not_false Option.getD_some window Val.slen bnd resV resL RV.val Bool.false_eq_true BEq.rfl Bool.true_beq Bool.false_beq beq_true beq_false mk_one ite_true ite_false eqc ceqs ceq NOp.step isK eq_self
attribute [local go_sem] gV_no
/-- A queue's objects, from the object b on. -/
def fHb (b : Nat) (q : Fq) : Heap := [.rw [gV q.ro (b + 4) q.row.length 3, .p (b + 1) 0, .i .i64 (q.room : Nat)], .rw (q.t.cells q.t.s (b + 2) (b + 3)), .rw (encF q.t.s.f q.t.len), q.t.fobj, gO q.ro (rowC q.row)]
theorem ahead_c (a b c d : Int) : SoundM Try.prog 0 23 [.agg [.i .u64 a, .i .u64 b], .agg [.i .u64 c, .i .u64 d]] [] (fun v H => v = .b (decide (klt (a, b) (c, d))) ∧ H = []) := by
  refine sound_told (sound_func Try.func23 c23 rfl (by simp) ?_)
  simp only [e23]
  have key : ∀ x : Bool, x = decide (klt (a, b) (c, d)) → Ev.Told 0 (fun v H => v = .b (decide (klt (a, b) (c, d))) ∧ H = []) (.b x) [.rw [.i .u64 a, .i .u64 b], .rw [.i .u64 c, .i .u64 d]] := by
    rintro x rfl
    refine told [] [] (.b (decide (klt (a, b) (c, d)))) ?_ (by decide) ?_ ?_ ?_ rfl ?_ ?_ ?_; iterate 6 (· simp [-List.map_map, embAt, nm, rn_rw, rn_ro, rn_map, rn_iter, rn_dead, renL, Val.ren, wfAll, wn_rw, wn_ro, wn_map, wn_iter, wn_dead, wfL, Val.wf, Env.get, initEnv, Val.ren])
    exact ⟨rfl, rfl⟩
  by_cases h1 : a < c
  · (have g0 := decide_t h1; refine GG1 ?_; clear g0)
    refine key true ?_
    exact (decide_t (show klt (a, b) (c, d) from .inl h1)).symm
  · by_cases h2 : a = c
    · have h2b : (a == c) = true := by simp [h2]
      (have g0 := decide_f h1; have g1 := h2b; refine GG2 ?_; clear g0 g1)
      refine key _ ?_
      subst h2
      exact decide_eq_decide.2 ⟨fun h => .inr ⟨rfl, h⟩, fun h => by rcases h with h | h; exact absurd h h1; exact h.2⟩
    · have h2b : (a == c) = false := by simpa using h2
      (have g0 := decide_f h1; have g1 := h2b; refine GG2 ?_; clear g0 g1)
      refine key false ?_
      refine (decide_f ?_).symm
      rintro (h | h)
      · exact h1 h
      · exact h2 h.1
theorem ahead_ok (a b c d : Int) (H : Heap) : SoundCall Try.prog 23 [.agg [.i .u64 a, .i .u64 b], .agg [.i .u64 c, .i .u64 d]] H (fun v H' => v = .b (decide (klt (a, b) (c, d))) ∧ H' = H) :=
  sound_alone (ahead_c a b c d) (by simp [wfL, Val.wf]) (fun ι => by simp [renL, Val.ren]) (fun ι => rfl) H
abbrev Opr := Int × Int × Int × Int
def opC (x : Opr) : List Val := [.i .u8 x.1, .i .u64 x.2.1, .i .u64 x.2.2.1, .i .u64 x.2.2.2]
def opsC (l : List Opr) : List Val := l.flatMap opC
theorem ops_ren (ι : Nat → Nat) (l : List Opr) : renL ι (opsC l) = opsC l := renL_flat ι l fun _ => rfl
theorem ops_wf (m : Nat) (l : List Opr) : wfL m (opsC l) = true := wfL_flat m (fun _ => rfl) l
theorem ops_length (l : List Opr) : (opsC l).length = l.length * 4 := by
  induction l with
  | nil => rfl
  | cons x l ih => simp [opsC, opC] at ih ⊢; omega
theorem ops_win {l : List Opr} {i : Nat} {x : Opr} (h : l[i]? = some x) : ((opsC l).drop (i * 4)).take 4 = opC x ∧ i * 4 + 4 ≤ (opsC l).length := by
  have hi : i < l.length := (List.getElem?_eq_some_iff.1 h).1
  have hl := ops_length l
  refine ⟨?_, by omega⟩
  obtain ⟨a, b, rfl, rfl⟩ : ∃ a b, l = a ++ x :: b ∧ i = a.length := ⟨l.take i, l.drop (i + 1), by
    have e : l[i] = x := (List.getElem?_eq_some_iff.1 h).2
    rw [← e, List.getElem_cons_drop, List.take_append_drop], by simp; omega⟩
  have e2 : (opsC a).length = a.length * 4 := ops_length a
  have e1 : opsC (a ++ x :: b) = opsC a ++ (opC x ++ opsC b) := by simp [opsC]
  rw [e1, ← e2, List.drop_left]; rfl
/-- Each of the calls is of numbers that there are. -/
def OpOk (x : Opr) : Prop := 0 ≤ x.2.1 ∧ x.2.1 ≤ 18446744073709551615
/-- What a call makes of a queue. -/
def opM (room : Nat) (M : List (Int × Int × Int)) (x : Opr) : List (Int × Int × Int) :=
  if x.1 = 1 then (putE (x.2.2.1, x.2.2.2) x.2.1 room M).2 else if x.1 = 2 then M.tail else M
def playM (room : Nat) (l : List Opr) : List (Int × Int × Int) := l.foldl (opM room) []
theorem playM_snoc (room : Nat) (l : List Opr) (x : Opr) : playM room (l ++ [x]) = opM room (playM room l) x := by simp [playM]
theorem gSlice {e : Opd → Val} {H : Heap} {x hi : Opd} {o : GO} {id n k sz : Nat} {kd : IntKind} (hx : e x = gV o id n sz) (ho : o = none ∨ o = gNew) (hn : o = none → n = 0) (hh : e hi = .i kd (k : Nat)) (hk : k ≤ n) :
    (IOp.slice sz x none (some hi)).step e H = some (gV o id k sz, H) := by
  rcases ho with rfl | rfl
  · obtain rfl := hn rfl
    obtain rfl : k = 0 := by omega
    simp only [IOp.step, hx, gV, bnd, hh]
    simp
  · simp only [IOp.step, hx, gV_new, bnd, hh]
    rw [if_pos ⟨trivial, by omega, by omega, by omega⟩]
    simp
def PInv (l : List Opr) (o : GO) (k : Nat) (n : Nat) (ρ : Env) (H : Heap) : Prop :=
  ∃ (i : Nat) (q : Fq), i ≤ k ∧ n = k - i ∧ FR q (playM 40 (l.take i)) ∧ q.room = 40 ∧ AnewS 1 (.ro (opsC l) :: fHb 1 q) [(4, .p 1 0), (5, .i .i64 0), (16, gV o 0 k 4), (17, .i .i64 (k : Nat)), (18, .i .i64 (i : Nat))] ρ H
def PlayedP (l : List Opr) (k : Nat) (v : Val) (H : Heap) : Prop := ∃ q : Fq, FR q (playM 40 (l.take k)) ∧ q.room = 40 ∧ v = .tup [.p 1 0, .b true] ∧ H = .ro (opsC l) :: fHb 1 q
theorem played_c (l : List Opr) (o : GO) (n : Nat) (ho : o = none ∨ o = gNew) (hn : o = none → n = 0) (hnl : n ≤ l.length) (hn60 : n ≤ 9223372036854775807) (hok : ∀ x ∈ l, OpOk x) :
    SoundM Try.prog 1 22 [gV o 0 n 4] [.ro (opsC l)] (PlayedP l (min n 60)) := by
  refine sound_told (sound_func Try.func22 c22 rfl (by simp) ?_)
  have hnew := fnew_c 40
  have go : gC o := gC_of ho
  have hk : min n 60 ≤ n := by omega
  have hkl : min n 60 ≤ 60 := by omega
  have hmin : mxs true (.i .i64 ((n : Nat) : Int)) [.i .i64 60] = some (.i .i64 ((min n 60 : Nat) : Int)) := by
    rcases Nat.le_total n 60 with h | h
    · rw [mn_lo (by omega), Nat.min_eq_left h]
    · rw [mn_hi (by omega), Nat.min_eq_right h]; rfl
  generalize min n 60 = k at hk hkl hmin
  simp only [e22]
  refine GG0 ?_
  (first | ((with_reducible first | apply RunP.call | apply Run.call | apply Run.call0); iterate 2 (· (simp only [go_sem, reduceIte, Nat.reduceEqDiff]; (try with_reducible exact rfl)))) | ((with_reducible first | apply Run.callY | apply RunP.callY); iterate 3 (· (simp only [go_sem, reduceIte, Nat.reduceEqDiff]; (try with_reducible exact rfl)))))
  refine sound_use (hnew) [] rfl (by decide) ?_ ?_ ?_ ?_ ?_; iterate 4 (· simp [-List.map_map, embAt, nm, rn_rw, rn_ro, rn_map, rn_iter, rn_dead, renL, Val.ren, wfAll, wn_rw, wn_ro, wn_map, wn_iter, wn_dead, wfL, Val.wf, Env.get, initEnv, Val.ren])
  rintro v C' hv
  unfold NewP at hv
  rw [if_neg (by decide)] at hv
  obtain ⟨rfl, rfl⟩ := hv
  have hq0 : FR (newFq (Int.toNat 40)) [] := newFq_rep (by decide) (by decide)
  have hr0 : (newFq (Int.toNat 40)).room = 40 := rfl
  generalize newFq (Int.toNat 40) = q0 at hq0 hr0
  have hg0 := hq0.gc
  simp only [merge, place, after, nm, MG, Val.ren, renL, rn_rw, rn_ro, rn_map, rn_iter, rn_dead, reduceIte, Nat.reduceLT, Nat.reduceAdd, Nat.reduceSub, Nat.lt_irrefl, Nat.zero_lt_one, Nat.zero_lt_succ, hg0, fH, TS.cells, encF_ren, encF_wf, fv_ren, fv_wf, fobj_ren, fobj_wf, gV_ren, gV_wf, gOr_ren, gOr_wf]
  (have g0 := gV_len hn; have g1 := hmin; refine GG2 ?_; clear g0 g1)
  refine Aa (gSlice (o := o) (id := 0) (n := n) (k := k) (by (simp only [go_sem, reduceIte, Nat.reduceEqDiff]; (try with_reducible exact rfl))) ho hn (by (simp only [go_sem, reduceIte, Nat.reduceEqDiff]; (try with_reducible exact rfl))) hk) ?_
  have hnk : o = none → k = 0 := fun e => by have := hn e; omega
  (have g0 := gV_len hnk; refine GG1 ?_; clear g0)
  refine ei_loop (PInv l o k) (n := k) ?_ ?_
  · refine ⟨0, q0, by omega, by omega, hq0, hr0, ?_⟩
    (refine anew [0, 1, 2, 3, 4, 5] ?_ (by decide) ?_ ?_ ?_ rfl ?_ ?_ <;> simp [-List.map_map, embAt, nm, rn_rw, rn_ro, rn_map, rn_iter, rn_dead, renL, Val.ren, wfAll, wn_rw, wn_ro, wn_map, wn_iter, wn_dead, wfL, Val.wf, Env.get, initEnv, tH, fH, fHb, TS.cells, encF_ren, encF_wf, fv_ren, fv_wf, fobj_ren, fobj_wf, gV_ren, gV_wf, gOr_ren, gOr_wf, ops_ren, ops_wf, hg0, go])
  · rintro n' ρ H ⟨i, q, hi, rfl, hq, hr, ha⟩
    refine ei_anewS ha ?_
    clear ha hq0 hr0 hg0
    have hg := hq.gc
    simp only [fHb, TS.cells]
    by_cases hik : i = k
    · subst hik
      have hz : ¬ (((i : Nat) : Int) < ((i : Nat) : Int)) := by omega
      (have g0 := decide_f hz; refine GG1 ?_; clear g0)
      refine told [0, 1, 2, 3, 4, 5] (.ro (opsC l) :: fHb 1 q) (.tup [.p 1 0, .b true]) ?_ (by decide) ?_ ?_ ?_ rfl ?_ ?_ ?_; iterate 6 (· simp [-List.map_map, embAt, nm, rn_rw, rn_ro, rn_map, rn_iter, rn_dead, renL, Val.ren, wfAll, wn_rw, wn_ro, wn_map, wn_iter, wn_dead, wfL, Val.wf, Env.get, initEnv, tH, fH, fHb, TS.cells, encF_ren, encF_wf, fv_ren, fv_wf, fobj_ren, fobj_wf, gV_ren, gV_wf, gOr_ren, gOr_wf, ops_ren, ops_wf, hg])
      exact ⟨q, hq, hr, rfl, rfl⟩
    · have hz : (((i : Nat) : Int) < ((k : Nat) : Int)) := by omega
      obtain ⟨x, hx⟩ : ∃ x, l[i]? = some x := ⟨l[i], List.getElem?_eq_getElem (by omega)⟩
      obtain ⟨w1, w2⟩ := ops_win hx
      have hox := hok x (List.mem_of_getElem? hx)
      have hstep : playM 40 (l.take (i + 1)) = opM 40 (playM 40 (l.take i)) x := by
        rw [List.take_add_one, hx]; exact playM_snoc _ _ _
      rcases ho with rfl | rfl
      · exact absurd (hnk rfl) (by omega)
      simp only [gV_new]
      obtain ⟨kd, h, at_, sq⟩ := x
      by_cases k1 : kd = 1
      · have hb1 : (kd == 1) = true := by simp [k1]
        have hp := push_c q _ hq (at_, sq) h hox
        rw [hr] at hp
        repeat (first
    | ((first | (with_reducible first | apply Aa | apply Ab | apply Ac | apply Ad | apply Ae | apply Af | apply Na | apply Nb) | ((with_reducible first | apply Ag | apply Ah | apply Nc); · (simp only [go_sem, reduceIte, Nat.reduceEqDiff, decide_t hz, nat_toNat, w1, opC, hb1]; (try with_reducible exact rfl)))); · (simp only [go_sem, Int.reduceBEq, Int.reduceBNe, Int.reduceLT, Int.reduceLE, Int.reduceAdd, Int.reduceSub, Int.reduceToNat, reduceIte, Nat.reduceEqDiff, Nat.reduceAdd, Nat.reduceMul, Nat.reduceLeDiff, Nat.reduceSub, reduceCtorEq, decide_t hz, nat_toNat, w1, opC, hb1]; (try simp (disch := omega) only [OM, mn_lo, mn_hi, mx_lo, mx_hi, if_yes, if_no, Option.map_some, decide_t hz, nat_toNat, w1, opC, hb1]); (try with_reducible exact rfl)))
    | ((with_reducible first | apply Ba | apply Bb | apply Bc | apply Bd | apply Be | apply Nd); · (simp only [go_sem, reduceIte, Nat.reduceEqDiff, decide_t hz, nat_toNat, w1, opC, hb1]; (try with_reducible exact rfl))) | ((with_reducible first | apply Ca | apply Cb | apply Cc | apply Cd | apply Ce | apply Ne); · (simp only [go_sem, reduceIte, Nat.reduceEqDiff, decide_t hz, nat_toNat, w1, opC, hb1]; (try with_reducible exact rfl)))
    | ((with_reducible first | apply Dg | apply Dh); (· decide +kernel); (· (simp only [inOrd, List.getElem?_cons_succ, List.getElem?_cons_zero]; exact rfl)))
    | ((with_reducible first | apply De | apply Df); (· decide +kernel); (· (simp only [inOrd, List.getElem?_cons_succ, List.getElem?_cons_zero]; exact rfl)))
    | (with_reducible first | apply Ea | apply Eb | apply Ec | apply Ed | apply Ee | apply Ef | apply Eg | apply Eh | apply Ei | apply Ej | apply Ek | apply El | apply Em | apply En | apply Eo) | ((with_reducible apply Ep); · rfl))
        (first | ((with_reducible first | apply RunP.call | apply Run.call | apply Run.call0); iterate 2 (· (simp only [go_sem, reduceIte, Nat.reduceEqDiff]; (try with_reducible exact rfl)))) | ((with_reducible first | apply Run.callY | apply RunP.callY); iterate 3 (· (simp only [go_sem, reduceIte, Nat.reduceEqDiff]; (try with_reducible exact rfl)))))
        refine sound_use (hp) [1, 2, 3, 4, 5] rfl (by decide) ?_ ?_ ?_ ?_ ?_; iterate 4 (· simp [-List.map_map, embAt, nm, rn_rw, rn_ro, rn_map, rn_iter, rn_dead, renL, Val.ren, wfAll, wn_rw, wn_ro, wn_map, wn_iter, wn_dead, wfL, Val.wf, Env.get, initEnv, tH, fH, fHb, TS.cells, encF_ren, encF_wf, fv_ren, fv_wf, fobj_ren, fobj_wf, gV_ren, gV_wf, gOr_ren, gOr_wf, ops_ren, ops_wf, hg])
        rintro v C' ⟨rfl, q', hq', hr', rfl⟩
        have hg' := hq'.gc
        simp only [merge, place, after, nm, MG, Val.ren, renL, rn_rw, rn_ro, rn_map, rn_iter, rn_dead, reduceIte, Nat.reduceLT, Nat.reduceAdd, Nat.reduceSub, Nat.lt_irrefl, Nat.zero_lt_one, Nat.zero_lt_succ, tH, fH, fHb, TS.cells, encF_ren, encF_wf, fv_ren, fv_wf, fobj_ren, fobj_wf, gV_ren, gV_wf, gOr_ren, gOr_wf, ops_ren, ops_wf, hg']
        refine GG0 ?_
        refine ⟨k - (i + 1), by omega, i + 1, q', by omega, rfl, ?_, hr'.trans hr, ?_⟩
        · rw [hstep, opM, if_pos k1]; exact hq'
        · (refine anew [0, 1, 7, 8, 9, 10] ?_ (by decide) ?_ ?_ ?_ rfl ?_ ?_ <;> simp [-List.map_map, embAt, nm, rn_rw, rn_ro, rn_map, rn_iter, rn_dead, renL, Val.ren, wfAll, wn_rw, wn_ro, wn_map, wn_iter, wn_dead, wfL, Val.wf, Env.get, initEnv, tH, fH, fHb, TS.cells, encF_ren, encF_wf, fv_ren, fv_wf, fobj_ren, fobj_wf, gV_ren, gV_wf, gOr_ren, gOr_wf, ops_ren, ops_wf, hg', gV_new])
      · have hb1 : (kd == 1) = false := by simpa using k1
        by_cases k2 : kd = 2
        · have hb2 : (kd == 2) = true := by simp [k2]
          have hp := fpop_c q _ hq
          repeat (first
    | ((first | (with_reducible first | apply Aa | apply Ab | apply Ac | apply Ad | apply Ae | apply Af | apply Na | apply Nb) | ((with_reducible first | apply Ag | apply Ah | apply Nc); · (simp only [go_sem, reduceIte, Nat.reduceEqDiff, decide_t hz, nat_toNat, w1, opC, hb1, hb2]; (try with_reducible exact rfl)))); · (simp only [go_sem, Int.reduceBEq, Int.reduceBNe, Int.reduceLT, Int.reduceLE, Int.reduceAdd, Int.reduceSub, Int.reduceToNat, reduceIte, Nat.reduceEqDiff, Nat.reduceAdd, Nat.reduceMul, Nat.reduceLeDiff, Nat.reduceSub, reduceCtorEq, decide_t hz, nat_toNat, w1, opC, hb1, hb2]; (try simp (disch := omega) only [OM, mn_lo, mn_hi, mx_lo, mx_hi, if_yes, if_no, Option.map_some, decide_t hz, nat_toNat, w1, opC, hb1, hb2]); (try with_reducible exact rfl)))
    | ((with_reducible first | apply Ba | apply Bb | apply Bc | apply Bd | apply Be | apply Nd); · (simp only [go_sem, reduceIte, Nat.reduceEqDiff, decide_t hz, nat_toNat, w1, opC, hb1, hb2]; (try with_reducible exact rfl))) | ((with_reducible first | apply Ca | apply Cb | apply Cc | apply Cd | apply Ce | apply Ne); · (simp only [go_sem, reduceIte, Nat.reduceEqDiff, decide_t hz, nat_toNat, w1, opC, hb1, hb2]; (try with_reducible exact rfl)))
    | ((with_reducible first | apply Dg | apply Dh); (· decide +kernel); (· (simp only [inOrd, List.getElem?_cons_succ, List.getElem?_cons_zero]; exact rfl)))
    | ((with_reducible first | apply De | apply Df); (· decide +kernel); (· (simp only [inOrd, List.getElem?_cons_succ, List.getElem?_cons_zero]; exact rfl)))
    | (with_reducible first | apply Ea | apply Eb | apply Ec | apply Ed | apply Ee | apply Ef | apply Eg | apply Eh | apply Ei | apply Ej | apply Ek | apply El | apply Em | apply En | apply Eo) | ((with_reducible apply Ep); · rfl))
          (first | ((with_reducible first | apply RunP.call | apply Run.call | apply Run.call0); iterate 2 (· (simp only [go_sem, reduceIte, Nat.reduceEqDiff]; (try with_reducible exact rfl)))) | ((with_reducible first | apply Run.callY | apply RunP.callY); iterate 3 (· (simp only [go_sem, reduceIte, Nat.reduceEqDiff]; (try with_reducible exact rfl)))))
          refine sound_use (hp) [1, 2, 3, 4, 5] rfl (by decide) ?_ ?_ ?_ ?_ ?_; iterate 4 (· simp [-List.map_map, embAt, nm, rn_rw, rn_ro, rn_map, rn_iter, rn_dead, renL, Val.ren, wfAll, wn_rw, wn_ro, wn_map, wn_iter, wn_dead, wfL, Val.wf, Env.get, initEnv, tH, fH, fHb, TS.cells, encF_ren, encF_wf, fv_ren, fv_wf, fobj_ren, fobj_wf, gV_ren, gV_wf, gOr_ren, gOr_wf, ops_ren, ops_wf, hg])
          rintro v C' ⟨rfl, q', hq', hr', rfl⟩
          have hg' := hq'.gc
          simp only [merge, place, after, nm, MG, Val.ren, renL, rn_rw, rn_ro, rn_map, rn_iter, rn_dead, reduceIte, Nat.reduceLT, Nat.reduceAdd, Nat.reduceSub, Nat.lt_irrefl, Nat.zero_lt_one, Nat.zero_lt_succ, tH, fH, fHb, TS.cells, encF_ren, encF_wf, fv_ren, fv_wf, fobj_ren, fobj_wf, gV_ren, gV_wf, gOr_ren, gOr_wf, ops_ren, ops_wf, hg']
          refine GG0 ?_
          refine ⟨k - (i + 1), by omega, i + 1, q', by omega, rfl, ?_, hr'.trans hr, ?_⟩
          · rw [hstep, opM, if_neg k1, if_pos k2]; exact hq'
          · (refine anew [0, 1, 7, 8, 9, 10] ?_ (by decide) ?_ ?_ ?_ rfl ?_ ?_ <;> simp [-List.map_map, embAt, nm, rn_rw, rn_ro, rn_map, rn_iter, rn_dead, renL, Val.ren, wfAll, wn_rw, wn_ro, wn_map, wn_iter, wn_dead, wfL, Val.wf, Env.get, initEnv, tH, fH, fHb, TS.cells, encF_ren, encF_wf, fv_ren, fv_wf, fobj_ren, fobj_wf, gV_ren, gV_wf, gOr_ren, gOr_wf, ops_ren, ops_wf, hg', gV_new])
        · have hb2 : (kd == 2) = false := by simpa using k2
          repeat (first
    | ((first | (with_reducible first | apply Aa | apply Ab | apply Ac | apply Ad | apply Ae | apply Af | apply Na | apply Nb) | ((with_reducible first | apply Ag | apply Ah | apply Nc); · (simp only [go_sem, reduceIte, Nat.reduceEqDiff, decide_t hz, nat_toNat, w1, opC, hb1, hb2]; (try with_reducible exact rfl)))); · (simp only [go_sem, Int.reduceBEq, Int.reduceBNe, Int.reduceLT, Int.reduceLE, Int.reduceAdd, Int.reduceSub, Int.reduceToNat, reduceIte, Nat.reduceEqDiff, Nat.reduceAdd, Nat.reduceMul, Nat.reduceLeDiff, Nat.reduceSub, reduceCtorEq, decide_t hz, nat_toNat, w1, opC, hb1, hb2]; (try simp (disch := omega) only [OM, mn_lo, mn_hi, mx_lo, mx_hi, if_yes, if_no, Option.map_some, decide_t hz, nat_toNat, w1, opC, hb1, hb2]); (try with_reducible exact rfl)))
    | ((with_reducible first | apply Ba | apply Bb | apply Bc | apply Bd | apply Be | apply Nd); · (simp only [go_sem, reduceIte, Nat.reduceEqDiff, decide_t hz, nat_toNat, w1, opC, hb1, hb2]; (try with_reducible exact rfl))) | ((with_reducible first | apply Ca | apply Cb | apply Cc | apply Cd | apply Ce | apply Ne); · (simp only [go_sem, reduceIte, Nat.reduceEqDiff, decide_t hz, nat_toNat, w1, opC, hb1, hb2]; (try with_reducible exact rfl)))
    | ((with_reducible first | apply Dg | apply Dh); (· decide +kernel); (· (simp only [inOrd, List.getElem?_cons_succ, List.getElem?_cons_zero]; exact rfl)))
    | ((with_reducible first | apply De | apply Df); (· decide +kernel); (· (simp only [inOrd, List.getElem?_cons_succ, List.getElem?_cons_zero]; exact rfl)))
    | (with_reducible first | apply Ea | apply Eb | apply Ec | apply Ed | apply Ee | apply Ef | apply Eg | apply Eh | apply Ei | apply Ej | apply Ek | apply El | apply Em | apply En | apply Eo) | ((with_reducible apply Ep); · rfl))
          refine ⟨k - (i + 1), by omega, i + 1, q, by omega, rfl, ?_, hr, ?_⟩
          · rw [hstep, opM, if_neg k1, if_neg k2]; exact hq
          · (refine anew [0, 1, 2, 3, 4, 5] ?_ (by decide) ?_ ?_ ?_ rfl ?_ ?_ <;> simp [-List.map_map, embAt, nm, rn_rw, rn_ro, rn_map, rn_iter, rn_dead, renL, Val.ren, wfAll, wn_rw, wn_ro, wn_map, wn_iter, wn_dead, wfL, Val.wf, Env.get, initEnv, tH, fH, fHb, TS.cells, encF_ren, encF_wf, fv_ren, fv_wf, fobj_ren, fobj_wf, gV_ren, gV_wf, gOr_ren, gOr_wf, ops_ren, ops_wf, hg, gV_new])
end Go.Proofs.Ytjahkgfihdngkaa.IR
