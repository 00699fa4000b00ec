/- This text of a proof shows: the law 'FifoTells'. -/
import Derived.Test.YtjahkgfihdngkaaGg
import Derived.Test.YtjahkgfihdngkaaSm
import Derived.Test.YtjahkgfihdngkaaGa
set_option linter.unusedVariables false
set_option linter.unusedSimpArgs false
set_option linter.constructorNameAsVariable false
namespace Go.Proofs.Ytjahkgfihdngkaa.IR
open Go Go.Proofs.Ytjahkgfihdngkaa.Ev Go.Proofs.Ytjahkgfihdngkaa.Ev.Rb
set_option linter.unusedSimpArgs false
set_option linter.unusedVariables false
set_option maxHeartbeats 4000000
attribute [local go_sem] skipV nc0 nc1 nc2 nc3 bne_self_eq_false decide_true decide_false IOp.step Opd.ev Env.get initEnv Val.cells? Val.one List.all_cons List.all_nil Bool.and_true Bool.and_self Bool.true_and bin ints eqv Val.kindNo lenNo_s lenNo_nils lenNo_sl lenNo_nilm lenNo_m lenOf_s lenOf_nils lenOf_sl lenOf_nilm unary partsOf padTo List.foldl_cons List.foldl_nil wr_nil wr_step wr_zero List.set_cons_zero List.set_cons_succ List.map_cons List.map_nil z1 z2 Nat.succ_ne_zero List.length_cons List.length_nil List.cons_append List.nil_append List.append_nil List.getElem?_cons_zero List.getElem?_cons_succ List.getElem?_nil Option.map_some Option.map_none Nat.zero_add Nat.add_zero List.drop_zero List.drop_succ_cons List.take_succ_cons List.take_zero List.take_nil and_self and_true true_and Nat.le_refl Bool.not_true Bool.not_false Option.getD_some window Val.slen bnd resV resL RV.val Bool.false_eq_true BEq.rfl Bool.true_beq Bool.false_beq beq_true beq_false mk_one ite_true ite_false eqc ceqs ceq NOp.step isK eq_self
attribute [local go_sem] Bool.and_self Bool.not_true beq_self_eq_true bne_self_eq_false gV_no
theorem gV_one (o : GO) (id n sz : Nat) : (gV o id n sz).one = true := by rcases o with _ | ⟨j, k⟩ <;> rfl
theorem gV_all (k : IntKind) (r : Int) (o : GO) (id n sz : Nat) : ([Val.i k r, gV o id n sz] : List Val).all Val.one = true := by rcases o with _ | ⟨j, l⟩ <;> rfl
attribute [local go_sem] nat_toNat
attribute [local go_sem high] gV_one gV_all
section
variable {P : Program} {pre : Nat → Nat → Bool} {its : List RItem} {r : List Nat} {wt : Watch} {ρ : Env} {H H' : Heap} {K : Env → Heap → Prop} {i d t : Nat} {b : Bool} {io : IOp} {v : Val} {g : FuncId} {f : Opd} {xs : List Opd} {va vb vs : List Val}
theorem RunD_op0Y (hi : its[i]? = some (.op (some d) (some (t, b)) io)) (hg : ρ.get t = .b b) (h0 : io.sort = 0) (h : io.step (Opd.ev ρ) H = some (v, H')) (k : RunD P pre its r wt ((d, v) :: ρ) H' K) : RunD P pre its (i :: r) wt ρ H K :=
  ⟨by simp only [EvD, hi, RItem.g, guardOk, hg, beq_self_eq_true, h, h0, putv]; simpa using k.out⟩
theorem RunD_op1Y (hi : its[i]? = some (.op (some d) (some (t, b)) io)) (hg : ρ.get t = .b b) (h0 : io.sort = 1) (h : io.step (Opd.ev ρ) H = some (v, H')) (k : RunD P pre its r ((i, fun K' => io.step (Opd.ev ρ) K' = some (v, K')) :: wt) ((d, v) :: ρ) H' K) : RunD P pre its (i :: r) wt ρ H K :=
  ⟨by simp only [EvD, hi, RItem.g, guardOk, hg, beq_self_eq_true, h, h0, putv]; simpa using k.out⟩
theorem RunD_callY (hi : its[i]? = some (.call (some d) (some (t, b)) f xs)) (hg : ρ.get t = .b b) (hf : f.ev ρ = .fn (.func g) va vb) (hv : va ++ xs.map (Opd.ev ρ) ++ vb = vs) (k : SoundCall P g vs H (fun v H' => recheck pre wt i H' ∧ RunD P pre its r wt ((d, v) :: ρ) H' K)) : RunD P pre its (i :: r) wt ρ H K :=
  ⟨by simp only [EvD, hi, RItem.g, guardOk, hg, beq_self_eq_true, EvItem, putv, hf, hv]; exact k.mono fun v H' q => ⟨q.1, q.2.out⟩⟩
end
theorem sl_argz {sv : Val} {id n sz : Nat} (h : SlArg sv id n sz) : ∃ o : GO, (o = none ∨ o = gNew) ∧ (o = none → n = 0) ∧ sv = gV o id n sz := by
  rcases h with ⟨h1, h2⟩ | h
  · exact ⟨none, .inl rfl, fun _ => h1, h2⟩
  · exact ⟨gNew, .inr rfl, fun e => absurd e gNew_ne, h⟩
theorem ok_opz {l : List Opr} (h : ∀ x ∈ l, (Lit.int .u8 x.1).wf = true ∧ (Lit.int .u64 x.2.1).wf = true ∧ (Lit.int .u64 x.2.2.1).wf = true ∧ (Lit.int .u64 x.2.2.2).wf = true) : ∀ x ∈ l, OpOk x := fun x hx => by
  have := (h x hx).2.1
  exact (by simpa [Lit.wf, IntKind.has, IntKind.min, IntKind.max, IntKind.bits, IntKind.signed] using this : 0 ≤ x.2.1 ∧ x.2.1 ≤ 18446744073709551615)
def FtM (l : List Opr) (ol : GO) (r k i : Nat) (ρ : Env) (H : Heap) : Prop :=
  ∃ (q : Fq) (o : GO) (M : List (Int × Int × Int)), FR q M ∧ q.room = r ∧ gC o ∧ (o = none → M.length = 0) ∧ AnewS 1 (.ro (opsC l) :: fHb 1 q ++ [.rw [.i .i64 (r : Nat), gV o 7 M.length 3], gO o (rowC M)]) [(5, .p 1 0), (7, .p 6 0), (65, gV ol 0 k 4), (66, .i .i64 (k : Nat)), (67, .i .i64 (i : Nat))] ρ H
def FtI (l : List Opr) (ol : GO) (r k : Nat) (n : Nat) (ρ : Env) (H : Heap) : Prop := ∃ i : Nat, i ≤ k ∧ n = k - i ∧ FtM l ol r k i ρ H
theorem FifoTells_sound (a0 : Int) (l1 : List (Int × Int × Int × Int)) (sv1 : Val)
    (w0 : (Lit.int .i64 a0).wf = true) (s1 : SlArg sv1 0 l1.length 4) (m1 : l1.length ≤ maxLen) (e1 : ∀ x ∈ l1, (Lit.int .u8 x.1).wf = true ∧ (Lit.int .u64 x.2.1).wf = true ∧ (Lit.int .u64 x.2.2.1).wf = true ∧ (Lit.int .u64 x.2.2.2).wf = true) :
    SoundM Try.prog 1 3 [.i .i64 a0, sv1] [.ro (l1.flatMap fun x => [.i .u8 x.1, .i .u64 x.2.1, .i .u64 x.2.2.1, .i .u64 x.2.2.2])] (fun v _ => v = .b true) := by
  obtain ⟨ol, hol, hnl, rfl⟩ := sl_argz s1
  have hok := ok_opz e1
  have hml : l1.length ≤ 9223372036854775807 := Nat.le_trans m1 (by decide)
  show SoundM _ _ _ _ [.ro (opsC l1)] _
  refine (sound_func Try.func3 c3 rfl (by simp) ?_)
  have gol : gC ol := gC_of hol
  have hnew := fnew_c a0
  have hrn := rnew_c a0
  simp only [e3]
  by_cases hb : a0 < 1 ∨ a0 > 65536
  · refine GG0 ?_
    (first | ((with_reducible first | apply RunP.call | apply Run.call | apply Run.call0); iterate 2 (· (simp only [go_sem, reduceIte, Nat.reduceEqDiff]; (try with_reducible exact rfl)))) | ((with_reducible first | apply Run.callY | apply RunP.callY); iterate 3 (· (simp only [go_sem, reduceIte, Nat.reduceEqDiff]; (try with_reducible exact rfl)))))
    refine sound_use (hnew) [] rfl (by decide) ?_ ?_ ?_ ?_ ?_; iterate 4 (· simp [-List.map_map, embAt, nm, rn_rw, rn_ro, rn_map, rn_iter, rn_dead, renL, Val.ren, wfAll, wn_rw, wn_ro, wn_map, wn_iter, wn_dead, wfL, Val.wf, Env.get, initEnv, Val.ren])
    rintro v C' hv
    unfold NewP at hv
    rw [if_pos hb] at hv
    obtain ⟨rfl, rfl⟩ := hv
    simp only [merge, place, after, nm, MG, Val.ren, renL, rn_rw, rn_ro, rn_map, rn_iter, rn_dead, reduceIte, Nat.reduceLT, Nat.reduceAdd, Nat.reduceSub, Nat.lt_irrefl, Nat.zero_lt_one, Nat.zero_lt_succ]
    refine GG0 ?_
    (first | ((with_reducible first | apply RunP.call | apply Run.call | apply Run.call0); iterate 2 (· (simp only [go_sem, reduceIte, Nat.reduceEqDiff]; (try with_reducible exact rfl)))) | ((with_reducible first | apply Run.callY | apply RunP.callY); iterate 3 (· (simp only [go_sem, reduceIte, Nat.reduceEqDiff]; (try with_reducible exact rfl)))))
    refine sound_use (hrn) [] rfl (by decide) ?_ ?_ ?_ ?_ ?_; iterate 4 (· simp [-List.map_map, embAt, nm, rn_rw, rn_ro, rn_map, rn_iter, rn_dead, renL, Val.ren, wfAll, wn_rw, wn_ro, wn_map, wn_iter, wn_dead, wfL, Val.wf, Env.get, initEnv, Val.ren])
    rintro v C' ⟨rfl, rfl⟩
    simp only [merge, place, after, nm, MG, Val.ren, renL, rn_rw, rn_ro, rn_map, rn_iter, rn_dead, reduceIte, Nat.reduceLT, Nat.reduceAdd, Nat.reduceSub, Nat.lt_irrefl, Nat.zero_lt_one, Nat.zero_lt_succ]
    (have g0 := decide_f (show ¬ (1 ≤ a0 ∧ a0 ≤ 65536) by omega); refine GG1 ?_; clear g0)
    (first | ((with_reducible first | apply RunP.call | apply Run.call | apply Run.call0); iterate 2 (· (simp only [go_sem, reduceIte, Nat.reduceEqDiff]; (try with_reducible exact rfl)))) | ((with_reducible first | apply Run.callY | apply RunP.callY); iterate 3 (· (simp only [go_sem, reduceIte, Nat.reduceEqDiff]; (try with_reducible exact rfl)))))
    refine (awake_sound _).mono ?_
    rintro v H' ⟨rfl, rfl⟩
    refine GG0 ?_
    rfl
  · obtain ⟨r, rfl⟩ : ∃ r : Nat, a0 = (r : Nat) := ⟨a0.toNat, by omega⟩
    have hq0 : FR (newFq r) [] := newFq_rep (by omega) (by omega)
    have hr0 : (newFq r).room = r := rfl
    refine GG0 ?_
    (first | ((with_reducible first | apply RunP.call | apply Run.call | apply Run.call0); iterate 2 (· (simp only [go_sem, reduceIte, Nat.reduceEqDiff]; (try with_reducible exact rfl)))) | ((with_reducible first | apply Run.callY | apply RunP.callY); iterate 3 (· (simp only [go_sem, reduceIte, Nat.reduceEqDiff]; (try with_reducible exact rfl)))))
    refine sound_use (hnew) [] rfl (by decide) ?_ ?_ ?_ ?_ ?_; iterate 4 (· simp [-List.map_map, embAt, nm, rn_rw, rn_ro, rn_map, rn_iter, rn_dead, renL, Val.ren, wfAll, wn_rw, wn_ro, wn_map, wn_iter, wn_dead, wfL, Val.wf, Env.get, initEnv, Val.ren])
    rintro v C' hv
    unfold NewP at hv
    rw [if_neg hb, Int.toNat_natCast] at hv
    obtain ⟨rfl, rfl⟩ := hv
    generalize newFq r = q0 at hq0 hr0 ⊢
    have hg0 := hq0.gc
    simp only [merge, place, after, nm, MG, Val.ren, renL, rn_rw, rn_ro, rn_map, rn_iter, rn_dead, reduceIte, Nat.reduceLT, Nat.reduceAdd, Nat.reduceSub, Nat.lt_irrefl, Nat.zero_lt_one, Nat.zero_lt_succ, tH, fH, fHb, TS.cells, encF_ren, encF_wf, fv_ren, fv_wf, fobj_ren, fobj_wf, gV_ren, gV_wf, gOr_ren, gOr_wf, ops_ren, ops_wf, gOh_ren, gOh_wf, rV, hg0]
    refine GG0 ?_
    (first | ((with_reducible first | apply RunP.call | apply Run.call | apply Run.call0); iterate 2 (· (simp only [go_sem, reduceIte, Nat.reduceEqDiff]; (try with_reducible exact rfl)))) | ((with_reducible first | apply Run.callY | apply RunP.callY); iterate 3 (· (simp only [go_sem, reduceIte, Nat.reduceEqDiff]; (try with_reducible exact rfl)))))
    refine sound_use (hrn) [] rfl (by decide) ?_ ?_ ?_ ?_ ?_; iterate 4 (· simp [-List.map_map, embAt, nm, rn_rw, rn_ro, rn_map, rn_iter, rn_dead, renL, Val.ren, wfAll, wn_rw, wn_ro, wn_map, wn_iter, wn_dead, wfL, Val.wf, Env.get, initEnv, Val.ren])
    rintro v C' ⟨rfl, rfl⟩
    simp only [merge, place, after, nm, MG, Val.ren, renL, rn_rw, rn_ro, rn_map, rn_iter, rn_dead, reduceIte, Nat.reduceLT, Nat.reduceAdd, Nat.reduceSub, Nat.lt_irrefl, Nat.zero_lt_one, Nat.zero_lt_succ, tH, fH, fHb, TS.cells, encF_ren, encF_wf, fv_ren, fv_wf, fobj_ren, fobj_wf, gV_ren, gV_wf, gOr_ren, gOr_wf, ops_ren, ops_wf, gOh_ren, gOh_wf, rV, hg0]
    by_cases h40 : r > 40
    · have hd : ((r : Nat) : Int) > 40 := by omega
      (have g0 := decide_t (show (1 : Int) ≤ (r : Nat) ∧ ((r : Nat) : Int) ≤ 65536 by omega); have g1 := decide_t hd; refine GG2 ?_; clear g0 g1)
      (first | ((with_reducible first | apply RunP.call | apply Run.call | apply Run.call0); iterate 2 (· (simp only [go_sem, reduceIte, Nat.reduceEqDiff]; (try with_reducible exact rfl)))) | ((with_reducible first | apply Run.callY | apply RunP.callY); iterate 3 (· (simp only [go_sem, reduceIte, Nat.reduceEqDiff]; (try with_reducible exact rfl)))))
      refine (awake_sound _).mono ?_
      rintro v H' ⟨rfl, rfl⟩
      refine GG0 ?_
      rfl
    · have hd : ¬ ((r : Nat) : Int) > 40 := by omega
      by_cases h80 : l1.length > 80
      · have hd2 : ((l1.length : Nat) : Int) > 80 := by omega
        (have g0 := decide_t (show (1 : Int) ≤ (r : Nat) ∧ ((r : Nat) : Int) ≤ 65536 by omega); have g1 := decide_f hd; have g2 := gV_len hnl; have g3 := decide_t hd2; refine GG4 ?_; clear g0 g1 g2 g3)
        (first | ((with_reducible first | apply RunP.call | apply Run.call | apply Run.call0); iterate 2 (· (simp only [go_sem, reduceIte, Nat.reduceEqDiff]; (try with_reducible exact rfl)))) | ((with_reducible first | apply Run.callY | apply RunP.callY); iterate 3 (· (simp only [go_sem, reduceIte, Nat.reduceEqDiff]; (try with_reducible exact rfl)))))
        refine (awake_sound _).mono ?_
        rintro v H' ⟨rfl, rfl⟩
        refine GG0 ?_
        rfl
      · have hd2 : ¬ ((l1.length : Nat) : Int) > 80 := by omega
        (have g0 := decide_t (show (1 : Int) ≤ (r : Nat) ∧ ((r : Nat) : Int) ≤ 65536 by omega); have g1 := decide_f hd; have g2 := gV_len hnl; have g3 := decide_f hd2; refine GG4 ?_; clear g0 g1 g2 g3)
        refine ei_pad ?_
        simp only [List.cons_append, List.nil_append]
        refine ei_loop (FtI l1 ol r l1.length) (n := l1.length) ?_ ?_
        · refine ⟨0, by omega, by omega, q0, none, [], hq0, hr0, trivial, fun _ => rfl, ?_⟩
          simp only [gO_none, gV_none]
          (refine anew [0, 1, 2, 3, 4, 5, 6, 7] ?_ (by decide) ?_ ?_ ?_ rfl ?_ ?_ <;> simp [-List.map_map, embAt, nm, rn_rw, rn_ro, rn_map, rn_iter, rn_dead, renL, Val.ren, wfAll, wn_rw, wn_ro, wn_map, wn_iter, wn_dead, wfL, Val.wf, Env.get, initEnv, tH, fH, fHb, TS.cells, encF_ren, encF_wf, fv_ren, fv_wf, fobj_ren, fobj_wf, gV_ren, gV_wf, gOr_ren, gOr_wf, ops_ren, ops_wf, gOh_ren, gOh_wf, rV, hg0, gol])
        · clear hq0 hr0 hg0
          rintro n ρ H ⟨i, hi, rfl, q, o, M, hq, hr, go, no, ha⟩
          refine ei_anewS ha ?_
          clear ha
          have hg := hq.gc
          simp only [fHb, TS.cells, List.cons_append, List.nil_append]
          by_cases h0 : i = l1.length
          · subst h0
            have hz : ¬ (((l1.length : Nat) : Int) < ((l1.length : Nat) : Int)) := by omega
            (have g0 := decide_f hz; refine GG1 ?_; clear g0)
            (first | ((with_reducible first | apply RunP.call | apply Run.call | apply Run.call0); iterate 2 (· (simp only [go_sem, reduceIte, Nat.reduceEqDiff]; (try with_reducible exact rfl)))) | ((with_reducible first | apply Run.callY | apply RunP.callY); iterate 3 (· (simp only [go_sem, reduceIte, Nat.reduceEqDiff]; (try with_reducible exact rfl)))))
            refine (awake_sound _).mono ?_
            rintro v H' ⟨rfl, rfl⟩
            refine GG0 ?_
            rfl
          · have hlt : i < l1.length := by omega
            have hz : (((i : Nat) : Int) < ((l1.length : Nat) : Int)) := by omega
            obtain ⟨x, hx⟩ : ∃ x, l1[i]? = some x := ⟨l1[i], List.getElem?_eq_getElem hlt⟩
            obtain ⟨w1, w2⟩ := ops_win hx
            have hox := hok x (List.mem_of_getElem? hx)
            rcases hol with rfl | rfl
            · exact absurd (hnl rfl) (by omega)
            simp only [gV_new]
            obtain ⟨kd, h, at_, sq⟩ := x
            repeat (first
    | ((first | (with_reducible first | apply Aa | apply Ab | apply Ac | apply Ad | apply Ae | apply Af | apply Na | apply Nb) | ((with_reducible first | apply Ag | apply Ah | apply Nc); · (simp only [go_sem, reduceIte, Nat.reduceEqDiff, decide_t hz, w1, opC]; (try with_reducible exact rfl)))); · (simp only [go_sem, Int.reduceBEq, Int.reduceBNe, Int.reduceLT, Int.reduceLE, Int.reduceAdd, Int.reduceSub, Int.reduceToNat, reduceIte, Nat.reduceEqDiff, Nat.reduceAdd, Nat.reduceMul, Nat.reduceLeDiff, Nat.reduceSub, reduceCtorEq, decide_t hz, w1, opC]; (try simp (disch := omega) only [OM, mn_lo, mn_hi, mx_lo, mx_hi, if_yes, if_no, Option.map_some, decide_t hz, w1, opC]); (try with_reducible exact rfl)))
    | ((with_reducible first | apply Ba | apply Bb | apply Bc | apply Bd | apply Be | apply Nd); · (simp only [go_sem, reduceIte, Nat.reduceEqDiff, decide_t hz, w1, opC]; (try with_reducible exact rfl))) | ((with_reducible first | apply Ca | apply Cb | apply Cc | apply Cd | apply Ce | apply Ne); · (simp only [go_sem, reduceIte, Nat.reduceEqDiff, decide_t hz, w1, opC]; (try with_reducible exact rfl)))
    | ((with_reducible first | apply Dg | apply Dh); (· decide +kernel); (· (simp only [inOrd, List.getElem?_cons_succ, List.getElem?_cons_zero]; exact rfl)))
    | ((with_reducible first | apply De | apply Df); (· decide +kernel); (· (simp only [inOrd, List.getElem?_cons_succ, List.getElem?_cons_zero]; exact rfl)))
    | (with_reducible first | apply Ea | apply Eb | apply Ec | apply Ed | apply Ee | apply Ef | apply Eg | apply Eh | apply Ei | apply Ej | apply Ek | apply El | apply Em | apply En | apply Eo) | ((with_reducible apply Ep); · rfl))
            refine ei_midB (M := FtM l1 gNew r l1.length i) ?_ ?_
            · have hm := hq.le
              rw [hr] at hm
              by_cases k1 : kd = 1
              · have hb1 : (kd == 1) = true := by simp [k1]
                have hp := push_c q _ hq (at_, sq) h hox
                have hrp := rpush_c r o M go no (by omega) (by omega) hm hq.sorted (at_, sq) h
                rw [hr] at hp
                (have g0 := hb1; refine GG1 ?_; clear g0)
                (first | ((with_reducible first | apply RunP.call | apply Run.call | apply Run.call0); iterate 2 (· (simp only [go_sem, reduceIte, Nat.reduceEqDiff]; (try with_reducible exact rfl)))) | ((with_reducible first | apply Run.callY | apply RunP.callY); iterate 3 (· (simp only [go_sem, reduceIte, Nat.reduceEqDiff]; (try with_reducible exact rfl)))))
                refine sound_use (hp) [1, 2, 3, 4, 5] rfl (by decide) ?_ ?_ ?_ ?_ ?_; iterate 4 (· simp [-List.map_map, embAt, nm, rn_rw, rn_ro, rn_map, rn_iter, rn_dead, renL, Val.ren, wfAll, wn_rw, wn_ro, wn_map, wn_iter, wn_dead, wfL, Val.wf, Env.get, initEnv, tH, fH, fHb, TS.cells, encF_ren, encF_wf, fv_ren, fv_wf, fobj_ren, fobj_wf, gV_ren, gV_wf, gOr_ren, gOr_wf, ops_ren, ops_wf, gOh_ren, gOh_wf, rV, hg])
                rintro v C' ⟨rfl, q', hq', hr', rfl⟩
                have hg' := hq'.gc
                simp only [merge, place, after, nm, MG, Val.ren, renL, rn_rw, rn_ro, rn_map, rn_iter, rn_dead, reduceIte, Nat.reduceLT, Nat.reduceAdd, Nat.reduceSub, Nat.lt_irrefl, Nat.zero_lt_one, Nat.zero_lt_succ, tH, fH, fHb, TS.cells, encF_ren, encF_wf, fv_ren, fv_wf, fobj_ren, fobj_wf, gV_ren, gV_wf, gOr_ren, gOr_wf, ops_ren, ops_wf, gOh_ren, gOh_wf, rV, hg', go]
                refine GG0 ?_
                (first | ((with_reducible first | apply RunP.call | apply Run.call | apply Run.call0); iterate 2 (· (simp only [go_sem, reduceIte, Nat.reduceEqDiff]; (try with_reducible exact rfl)))) | ((with_reducible first | apply Run.callY | apply RunP.callY); iterate 3 (· (simp only [go_sem, reduceIte, Nat.reduceEqDiff]; (try with_reducible exact rfl)))))
                refine sound_use (hrp) [7] rfl (by decide) ?_ ?_ ?_ ?_ ?_; iterate 4 (· simp [-List.map_map, embAt, nm, rn_rw, rn_ro, rn_map, rn_iter, rn_dead, renL, Val.ren, wfAll, wn_rw, wn_ro, wn_map, wn_iter, wn_dead, wfL, Val.wf, Env.get, initEnv, tH, fH, fHb, TS.cells, encF_ren, encF_wf, fv_ren, fv_wf, fobj_ren, fobj_wf, gV_ren, gV_wf, gOr_ren, gOr_wf, ops_ren, ops_wf, gOh_ren, gOh_wf, rV, go])
                rintro v C' (⟨e, he, rfl, rfl⟩ | ⟨he, rfl, rfl⟩)
                · simp only [merge, place, after, nm, MG, Val.ren, renL, rn_rw, rn_ro, rn_map, rn_iter, rn_dead, reduceIte, Nat.reduceLT, Nat.reduceAdd, Nat.reduceSub, Nat.lt_irrefl, Nat.zero_lt_one, Nat.zero_lt_succ, tH, fH, fHb, TS.cells, encF_ren, encF_wf, fv_ren, fv_wf, fobj_ren, fobj_wf, gV_ren, gV_wf, gOr_ren, gOr_wf, ops_ren, ops_wf, gOh_ren, gOh_wf, rV, hg', go]
                  simp only [he] at hq' ⊢
                  have hne : (e != e) = false := by simp
                  (have g0 := hne; refine GG1 ?_; clear g0)
                  refine ⟨q', o, M, hq', hr'.trans hr, go, no, ?_⟩
                  (refine anew [0, 1, 9, 10, 11, 12, 6, 7] ?_ (by decide) ?_ ?_ ?_ rfl ?_ ?_ <;> simp [-List.map_map, embAt, nm, rn_rw, rn_ro, rn_map, rn_iter, rn_dead, renL, Val.ren, wfAll, wn_rw, wn_ro, wn_map, wn_iter, wn_dead, wfL, Val.wf, Env.get, initEnv, tH, fH, fHb, TS.cells, encF_ren, encF_wf, fv_ren, fv_wf, fobj_ren, fobj_wf, gV_ren, gV_wf, gOr_ren, gOr_wf, ops_ren, ops_wf, gOh_ren, gOh_wf, rV, hg', go, gV_new, gC_new])
                · simp only [merge, place, after, nm, MG, Val.ren, renL, rn_rw, rn_ro, rn_map, rn_iter, rn_dead, reduceIte, Nat.reduceLT, Nat.reduceAdd, Nat.reduceSub, Nat.lt_irrefl, Nat.zero_lt_one, Nat.zero_lt_succ, tH, fH, fHb, TS.cells, encF_ren, encF_wf, fv_ren, fv_wf, fobj_ren, fobj_wf, gV_ren, gV_wf, gOr_ren, gOr_wf, ops_ren, ops_wf, gOh_ren, gOh_wf, rV, hg', go, gC_new]
                  simp only [he] at hq' ⊢
                  refine GG0 ?_
                  have hil : (ins (at_, sq, h) M).length = M.length + 1 := by rw [(ins_perm _ _).length_eq]; simp
                  refine ⟨q', gNew, ins (at_, sq, h) M, hq', hr'.trans hr, gC_new, fun e => absurd e gNew_ne, ?_⟩
                  rw [hil]
                  (refine anew [0, 1, 9, 10, 11, 12, 6, 13] ?_ (by decide) ?_ ?_ ?_ rfl ?_ ?_ <;> simp [-List.map_map, embAt, nm, rn_rw, rn_ro, rn_map, rn_iter, rn_dead, renL, Val.ren, wfAll, wn_rw, wn_ro, wn_map, wn_iter, wn_dead, wfL, Val.wf, Env.get, initEnv, tH, fH, fHb, TS.cells, encF_ren, encF_wf, fv_ren, fv_wf, fobj_ren, fobj_wf, gV_ren, gV_wf, gOr_ren, gOr_wf, ops_ren, ops_wf, gOh_ren, gOh_wf, rV, hg', go, gC_new, gV_new])
              · have hb1 : (kd == 1) = false := by simpa using k1
                by_cases k2 : kd = 2
                · have hb2 : (kd == 2) = true := by simp [k2]
                  have hp := fpop_c q _ hq
                  have hrp := rpop_c r o M go no (by omega)
                  (have g0 := hb1; have g1 := hb2; refine GG2 ?_; clear g0 g1)
                  (first | ((with_reducible first | apply RunP.call | apply Run.call | apply Run.call0); iterate 2 (· (simp only [go_sem, reduceIte, Nat.reduceEqDiff]; (try with_reducible exact rfl)))) | ((with_reducible first | apply Run.callY | apply RunP.callY); iterate 3 (· (simp only [go_sem, reduceIte, Nat.reduceEqDiff]; (try with_reducible exact rfl)))))
                  refine sound_use (hp) [1, 2, 3, 4, 5] rfl (by decide) ?_ ?_ ?_ ?_ ?_; iterate 4 (· simp [-List.map_map, embAt, nm, rn_rw, rn_ro, rn_map, rn_iter, rn_dead, renL, Val.ren, wfAll, wn_rw, wn_ro, wn_map, wn_iter, wn_dead, wfL, Val.wf, Env.get, initEnv, tH, fH, fHb, TS.cells, encF_ren, encF_wf, fv_ren, fv_wf, fobj_ren, fobj_wf, gV_ren, gV_wf, gOr_ren, gOr_wf, ops_ren, ops_wf, gOh_ren, gOh_wf, rV, hg])
                  rintro v C' ⟨rfl, q', hq', hr', rfl⟩
                  have hg' := hq'.gc
                  simp only [merge, place, after, nm, MG, Val.ren, renL, rn_rw, rn_ro, rn_map, rn_iter, rn_dead, reduceIte, Nat.reduceLT, Nat.reduceAdd, Nat.reduceSub, Nat.lt_irrefl, Nat.zero_lt_one, Nat.zero_lt_succ, tH, fH, fHb, TS.cells, encF_ren, encF_wf, fv_ren, fv_wf, fobj_ren, fobj_wf, gV_ren, gV_wf, gOr_ren, gOr_wf, ops_ren, ops_wf, gOh_ren, gOh_wf, rV, hg', go]
                  rw [headV_z]
                  simp only [Val.ren, renL]
                  refine GG0 ?_
                  (first | ((with_reducible first | apply RunP.call | apply Run.call | apply Run.call0); iterate 2 (· (simp only [go_sem, reduceIte, Nat.reduceEqDiff]; (try with_reducible exact rfl)))) | ((with_reducible first | apply Run.callY | apply RunP.callY); iterate 3 (· (simp only [go_sem, reduceIte, Nat.reduceEqDiff]; (try with_reducible exact rfl)))))
                  refine sound_use (hrp) [7] rfl (by decide) ?_ ?_ ?_ ?_ ?_; iterate 4 (· simp [-List.map_map, embAt, nm, rn_rw, rn_ro, rn_map, rn_iter, rn_dead, renL, Val.ren, wfAll, wn_rw, wn_ro, wn_map, wn_iter, wn_dead, wfL, Val.wf, Env.get, initEnv, tH, fH, fHb, TS.cells, encF_ren, encF_wf, fv_ren, fv_wf, fobj_ren, fobj_wf, gV_ren, gV_wf, gOr_ren, gOr_wf, ops_ren, ops_wf, gOh_ren, gOh_wf, rV, go])
                  rintro v C' ⟨o', go', no', rfl, rfl⟩
                  simp only [merge, place, after, nm, MG, Val.ren, renL, rn_rw, rn_ro, rn_map, rn_iter, rn_dead, reduceIte, Nat.reduceLT, Nat.reduceAdd, Nat.reduceSub, Nat.lt_irrefl, Nat.zero_lt_one, Nat.zero_lt_succ, tH, fH, fHb, TS.cells, encF_ren, encF_wf, fv_ren, fv_wf, fobj_ren, fobj_wf, gV_ren, gV_wf, gOr_ren, gOr_wf, ops_ren, ops_wf, gOh_ren, gOh_wf, rV, hg', go']
                  refine GG0 ?_
                  refine ⟨q', o', M.tail, hq', hr'.trans hr, go', no', ?_⟩
                  (refine anew [0, 1, 9, 10, 11, 12, 6, 7] ?_ (by decide) ?_ ?_ ?_ rfl ?_ ?_ <;> simp [-List.map_map, embAt, nm, rn_rw, rn_ro, rn_map, rn_iter, rn_dead, renL, Val.ren, wfAll, wn_rw, wn_ro, wn_map, wn_iter, wn_dead, wfL, Val.wf, Env.get, initEnv, tH, fH, fHb, TS.cells, encF_ren, encF_wf, fv_ren, fv_wf, fobj_ren, fobj_wf, gV_ren, gV_wf, gOr_ren, gOr_wf, ops_ren, ops_wf, gOh_ren, gOh_wf, rV, hg', go', gV_new])
                · have hb2 : (kd == 2) = false := by simpa using k2
                  (have g0 := hb1; have g1 := hb2; refine GG2 ?_; clear g0 g1)
                  refine ⟨q, o, M, hq, hr, go, no, ?_⟩
                  (refine anew [0, 1, 2, 3, 4, 5, 6, 7] ?_ (by decide) ?_ ?_ ?_ rfl ?_ ?_ <;> simp [-List.map_map, embAt, nm, rn_rw, rn_ro, rn_map, rn_iter, rn_dead, renL, Val.ren, wfAll, wn_rw, wn_ro, wn_map, wn_iter, wn_dead, wfL, Val.wf, Env.get, initEnv, tH, fH, fHb, TS.cells, encF_ren, encF_wf, fv_ren, fv_wf, fobj_ren, fobj_wf, gV_ren, gV_wf, gOr_ren, gOr_wf, ops_ren, ops_wf, gOh_ren, gOh_wf, rV, hg, go, gV_new])
            · clear hq hr go no hg
              rintro ρ H ⟨q, o, M, hq, hr, go, no, ha⟩
              refine ei_anewS ha ?_
              clear ha
              have hg := hq.gc
              have hm := hq.le
              rw [hr] at hm
              simp only [fHb, TS.cells, List.cons_append, List.nil_append]
              refine GG0 ?_
              (first | ((with_reducible first | apply RunP.call | apply Run.call | apply Run.call0); iterate 2 (· (simp only [go_sem, reduceIte, Nat.reduceEqDiff]; (try with_reducible exact rfl)))) | ((with_reducible first | apply Run.callY | apply RunP.callY); iterate 3 (· (simp only [go_sem, reduceIte, Nat.reduceEqDiff]; (try with_reducible exact rfl)))))
              refine sound_use (fhead_c q M hq) [1, 2, 3, 4, 5] rfl (by decide) ?_ ?_ ?_ ?_ ?_; iterate 4 (· simp [-List.map_map, embAt, nm, rn_rw, rn_ro, rn_map, rn_iter, rn_dead, renL, Val.ren, wfAll, wn_rw, wn_ro, wn_map, wn_iter, wn_dead, wfL, Val.wf, Env.get, initEnv, tH, fH, fHb, TS.cells, encF_ren, encF_wf, fv_ren, fv_wf, fobj_ren, fobj_wf, gV_ren, gV_wf, gOr_ren, gOr_wf, ops_ren, ops_wf, gOh_ren, gOh_wf, rV, hg])
              rintro v C' ⟨rfl, rfl⟩
              simp only [merge, place, after, nm, MG, Val.ren, renL, rn_rw, rn_ro, rn_map, rn_iter, rn_dead, reduceIte, Nat.reduceLT, Nat.reduceAdd, Nat.reduceSub, Nat.lt_irrefl, Nat.zero_lt_one, Nat.zero_lt_succ, tH, fH, fHb, TS.cells, encF_ren, encF_wf, fv_ren, fv_wf, fobj_ren, fobj_wf, gV_ren, gV_wf, gOr_ren, gOr_wf, ops_ren, ops_wf, gOh_ren, gOh_wf, rV, hg, go]
              rw [headV_z]
              simp only [Val.ren, renL]
              refine GG0 ?_
              (first | ((with_reducible first | apply RunP.call | apply Run.call | apply Run.call0); iterate 2 (· (simp only [go_sem, reduceIte, Nat.reduceEqDiff]; (try with_reducible exact rfl)))) | ((with_reducible first | apply Run.callY | apply RunP.callY); iterate 3 (· (simp only [go_sem, reduceIte, Nat.reduceEqDiff]; (try with_reducible exact rfl)))))
              refine sound_use (rhead_c r o M go no (by omega)) [7] rfl (by decide) ?_ ?_ ?_ ?_ ?_; iterate 4 (· simp [-List.map_map, embAt, nm, rn_rw, rn_ro, rn_map, rn_iter, rn_dead, renL, Val.ren, wfAll, wn_rw, wn_ro, wn_map, wn_iter, wn_dead, wfL, Val.wf, Env.get, initEnv, tH, fH, fHb, TS.cells, encF_ren, encF_wf, fv_ren, fv_wf, fobj_ren, fobj_wf, gV_ren, gV_wf, gOr_ren, gOr_wf, ops_ren, ops_wf, gOh_ren, gOh_wf, rV, go])
              rintro v C' ⟨rfl, rfl⟩
              simp only [merge, place, after, nm, MG, Val.ren, renL, rn_rw, rn_ro, rn_map, rn_iter, rn_dead, reduceIte, Nat.reduceLT, Nat.reduceAdd, Nat.reduceSub, Nat.lt_irrefl, Nat.zero_lt_one, Nat.zero_lt_succ, tH, fH, fHb, TS.cells, encF_ren, encF_wf, fv_ren, fv_wf, fobj_ren, fobj_wf, gV_ren, gV_wf, gOr_ren, gOr_wf, ops_ren, ops_wf, gOh_ren, gOh_wf, rV, hg, go]
              rw [headV_z]
              simp only [Val.ren, renL]
              refine GN0 ?_
              refine ei_dregD ?_
              repeat (first
                | ((with_reducible apply RunD.op0); (· rfl); (· rfl); (· (simp only [go_sem, Int.reduceBEq, Int.reduceBNe, Int.reduceLT, Int.reduceLE, Int.reduceAdd, Int.reduceSub, Int.reduceToNat, reduceIte, Nat.reduceEqDiff, Nat.reduceAdd, Nat.reduceMul, Nat.reduceLeDiff, Nat.reduceSub, reduceCtorEq, beq_self_eq_true, bne_self_eq_false, Bool.and_self, Bool.not_true, gV_no, gV_len no]; (try simp (disch := omega) only [OM, mn_lo, mn_hi, mx_lo, mx_hi, if_yes, if_no, Option.map_some, beq_self_eq_true, bne_self_eq_false, Bool.and_self, Bool.not_true, gV_no, gV_len no]); (try with_reducible exact rfl)))) | ((with_reducible apply RunD.op1); (· rfl); (· rfl); (· (simp only [go_sem, Int.reduceBEq, Int.reduceBNe, Int.reduceLT, Int.reduceLE, Int.reduceAdd, Int.reduceSub, Int.reduceToNat, reduceIte, Nat.reduceEqDiff, Nat.reduceAdd, Nat.reduceMul, Nat.reduceLeDiff, Nat.reduceSub, reduceCtorEq, beq_self_eq_true, bne_self_eq_false, Bool.and_self, Bool.not_true, gV_no, gV_len no]; (try simp (disch := omega) only [OM, mn_lo, mn_hi, mx_lo, mx_hi, if_yes, if_no, Option.map_some, beq_self_eq_true, bne_self_eq_false, Bool.and_self, Bool.not_true, gV_no, gV_len no]); (try with_reducible exact rfl))))
                | ((with_reducible apply RunD_op0Y); (· rfl); (· (simp only [go_sem, reduceIte, Nat.reduceEqDiff]; (try with_reducible exact rfl))); (· rfl); (· (simp only [go_sem, Int.reduceBEq, Int.reduceBNe, Int.reduceLT, Int.reduceLE, Int.reduceAdd, Int.reduceSub, Int.reduceToNat, reduceIte, Nat.reduceEqDiff, Nat.reduceAdd, Nat.reduceMul, Nat.reduceLeDiff, Nat.reduceSub, reduceCtorEq, beq_self_eq_true, bne_self_eq_false, Bool.and_self, Bool.not_true, gV_no, gV_len no]; (try simp (disch := omega) only [OM, mn_lo, mn_hi, mx_lo, mx_hi, if_yes, if_no, Option.map_some, beq_self_eq_true, bne_self_eq_false, Bool.and_self, Bool.not_true, gV_no, gV_len no]); (try with_reducible exact rfl)))) | ((with_reducible apply RunD_op1Y); (· rfl); (· (simp only [go_sem, reduceIte, Nat.reduceEqDiff]; (try with_reducible exact rfl))); (· rfl); (· (simp only [go_sem, Int.reduceBEq, Int.reduceBNe, Int.reduceLT, Int.reduceLE, Int.reduceAdd, Int.reduceSub, Int.reduceToNat, reduceIte, Nat.reduceEqDiff, Nat.reduceAdd, Nat.reduceMul, Nat.reduceLeDiff, Nat.reduceSub, reduceCtorEq, beq_self_eq_true, bne_self_eq_false, Bool.and_self, Bool.not_true, gV_no, gV_len no]; (try simp (disch := omega) only [OM, mn_lo, mn_hi, mx_lo, mx_hi, if_yes, if_no, Option.map_some, beq_self_eq_true, bne_self_eq_false, Bool.and_self, Bool.not_true, gV_no, gV_len no]); (try with_reducible exact rfl))))
                | (with_reducible apply RunD.nil))
              ((with_reducible apply RunD_callY); (· rfl); (· (simp only [go_sem, reduceIte, Nat.reduceEqDiff]; (try with_reducible exact rfl))); (· (simp only [go_sem, reduceIte, Nat.reduceEqDiff]; (try with_reducible exact rfl))); (· (simp only [go_sem, reduceIte, Nat.reduceEqDiff]; (try with_reducible exact rfl))))
              refine sound_use (flen_c q M hq) [1, 2, 3, 4, 5] rfl (by decide) ?_ ?_ ?_ ?_ ?_; iterate 4 (· simp [-List.map_map, embAt, nm, rn_rw, rn_ro, rn_map, rn_iter, rn_dead, renL, Val.ren, wfAll, wn_rw, wn_ro, wn_map, wn_iter, wn_dead, wfL, Val.wf, Env.get, initEnv, tH, fH, fHb, TS.cells, encF_ren, encF_wf, fv_ren, fv_wf, fobj_ren, fobj_wf, gV_ren, gV_wf, gOr_ren, gOr_wf, ops_ren, ops_wf, gOh_ren, gOh_wf, rV, hg])
              rintro v C' ⟨rfl, rfl⟩
              simp only [merge, place, after, nm, MG, Val.ren, renL, rn_rw, rn_ro, rn_map, rn_iter, rn_dead, reduceIte, Nat.reduceLT, Nat.reduceAdd, Nat.reduceSub, Nat.lt_irrefl, Nat.zero_lt_one, Nat.zero_lt_succ, tH, fH, fHb, TS.cells, encF_ren, encF_wf, fv_ren, fv_wf, fobj_ren, fobj_wf, gV_ren, gV_wf, gOr_ren, gOr_wf, ops_ren, ops_wf, gOh_ren, gOh_wf, rV, hg, go]
              refine And.intro ?_ ?_
              · repeat (first | exact recheck_nil | refine recheck_cons (by first | exact .inl rfl | exact .inr (by (simp only [go_sem, Int.reduceBEq, Int.reduceBNe, Int.reduceLT, Int.reduceLE, Int.reduceAdd, Int.reduceSub, Int.reduceToNat, reduceIte, Nat.reduceEqDiff, Nat.reduceAdd, Nat.reduceMul, Nat.reduceLeDiff, Nat.reduceSub, reduceCtorEq, beq_self_eq_true, bne_self_eq_false, Bool.and_self, Bool.not_true, gV_no, gV_len no]; (try simp (disch := omega) only [OM, mn_lo, mn_hi, mx_lo, mx_hi, if_yes, if_no, Option.map_some, beq_self_eq_true, bne_self_eq_false, Bool.and_self, Bool.not_true, gV_no, gV_len no]); (try with_reducible exact rfl)))) ?_)
              repeat (first
                | ((with_reducible apply RunD.op0); (· rfl); (· rfl); (· (simp only [go_sem, Int.reduceBEq, Int.reduceBNe, Int.reduceLT, Int.reduceLE, Int.reduceAdd, Int.reduceSub, Int.reduceToNat, reduceIte, Nat.reduceEqDiff, Nat.reduceAdd, Nat.reduceMul, Nat.reduceLeDiff, Nat.reduceSub, reduceCtorEq, beq_self_eq_true, bne_self_eq_false, Bool.and_self, Bool.not_true, gV_no, gV_len no]; (try simp (disch := omega) only [OM, mn_lo, mn_hi, mx_lo, mx_hi, if_yes, if_no, Option.map_some, beq_self_eq_true, bne_self_eq_false, Bool.and_self, Bool.not_true, gV_no, gV_len no]); (try with_reducible exact rfl)))) | ((with_reducible apply RunD.op1); (· rfl); (· rfl); (· (simp only [go_sem, Int.reduceBEq, Int.reduceBNe, Int.reduceLT, Int.reduceLE, Int.reduceAdd, Int.reduceSub, Int.reduceToNat, reduceIte, Nat.reduceEqDiff, Nat.reduceAdd, Nat.reduceMul, Nat.reduceLeDiff, Nat.reduceSub, reduceCtorEq, beq_self_eq_true, bne_self_eq_false, Bool.and_self, Bool.not_true, gV_no, gV_len no]; (try simp (disch := omega) only [OM, mn_lo, mn_hi, mx_lo, mx_hi, if_yes, if_no, Option.map_some, beq_self_eq_true, bne_self_eq_false, Bool.and_self, Bool.not_true, gV_no, gV_len no]); (try with_reducible exact rfl))))
                | ((with_reducible apply RunD_op0Y); (· rfl); (· (simp only [go_sem, reduceIte, Nat.reduceEqDiff]; (try with_reducible exact rfl))); (· rfl); (· (simp only [go_sem, Int.reduceBEq, Int.reduceBNe, Int.reduceLT, Int.reduceLE, Int.reduceAdd, Int.reduceSub, Int.reduceToNat, reduceIte, Nat.reduceEqDiff, Nat.reduceAdd, Nat.reduceMul, Nat.reduceLeDiff, Nat.reduceSub, reduceCtorEq, beq_self_eq_true, bne_self_eq_false, Bool.and_self, Bool.not_true, gV_no, gV_len no]; (try simp (disch := omega) only [OM, mn_lo, mn_hi, mx_lo, mx_hi, if_yes, if_no, Option.map_some, beq_self_eq_true, bne_self_eq_false, Bool.and_self, Bool.not_true, gV_no, gV_len no]); (try with_reducible exact rfl)))) | ((with_reducible apply RunD_op1Y); (· rfl); (· (simp only [go_sem, reduceIte, Nat.reduceEqDiff]; (try with_reducible exact rfl))); (· rfl); (· (simp only [go_sem, Int.reduceBEq, Int.reduceBNe, Int.reduceLT, Int.reduceLE, Int.reduceAdd, Int.reduceSub, Int.reduceToNat, reduceIte, Nat.reduceEqDiff, Nat.reduceAdd, Nat.reduceMul, Nat.reduceLeDiff, Nat.reduceSub, reduceCtorEq, beq_self_eq_true, bne_self_eq_false, Bool.and_self, Bool.not_true, gV_no, gV_len no]; (try simp (disch := omega) only [OM, mn_lo, mn_hi, mx_lo, mx_hi, if_yes, if_no, Option.map_some, beq_self_eq_true, bne_self_eq_false, Bool.and_self, Bool.not_true, gV_no, gV_len no]); (try with_reducible exact rfl))))
                | (with_reducible apply RunD.nil))
              ((with_reducible apply RunD_callY); (· rfl); (· (simp only [go_sem, reduceIte, Nat.reduceEqDiff]; (try with_reducible exact rfl))); (· (simp only [go_sem, reduceIte, Nat.reduceEqDiff]; (try with_reducible exact rfl))); (· (simp only [go_sem, reduceIte, Nat.reduceEqDiff]; (try with_reducible exact rfl))))
              refine sound_use (fall_c q M hq (by omega)) [1, 2, 3, 4, 5] rfl (by decide) ?_ ?_ ?_ ?_ ?_; iterate 4 (· simp [-List.map_map, embAt, nm, rn_rw, rn_ro, rn_map, rn_iter, rn_dead, renL, Val.ren, wfAll, wn_rw, wn_ro, wn_map, wn_iter, wn_dead, wfL, Val.wf, Env.get, initEnv, tH, fH, fHb, TS.cells, encF_ren, encF_wf, fv_ren, fv_wf, fobj_ren, fobj_wf, gV_ren, gV_wf, gOr_ren, gOr_wf, ops_ren, ops_wf, gOh_ren, gOh_wf, rV, hg])
              rintro v C' ⟨oa, hoa, noa, rfl, rfl⟩
              have goa := gC_of hoa
              simp only [merge, place, after, nm, MG, Val.ren, renL, rn_rw, rn_ro, rn_map, rn_iter, rn_dead, reduceIte, Nat.reduceLT, Nat.reduceAdd, Nat.reduceSub, Nat.lt_irrefl, Nat.zero_lt_one, Nat.zero_lt_succ, tH, fH, fHb, TS.cells, encF_ren, encF_wf, fv_ren, fv_wf, fobj_ren, fobj_wf, gV_ren, gV_wf, gOr_ren, gOr_wf, ops_ren, ops_wf, gOh_ren, gOh_wf, rV, hg, go, goa]
              refine And.intro ?_ ?_
              · repeat (first | exact recheck_nil | refine recheck_cons (by first | exact .inl rfl | exact .inr (by (simp only [go_sem, Int.reduceBEq, Int.reduceBNe, Int.reduceLT, Int.reduceLE, Int.reduceAdd, Int.reduceSub, Int.reduceToNat, reduceIte, Nat.reduceEqDiff, Nat.reduceAdd, Nat.reduceMul, Nat.reduceLeDiff, Nat.reduceSub, reduceCtorEq, beq_self_eq_true, bne_self_eq_false, Bool.and_self, Bool.not_true, gV_no, gV_len no]; (try simp (disch := omega) only [OM, mn_lo, mn_hi, mx_lo, mx_hi, if_yes, if_no, Option.map_some, beq_self_eq_true, bne_self_eq_false, Bool.and_self, Bool.not_true, gV_no, gV_len no]); (try with_reducible exact rfl)))) ?_)
              repeat (first
                | ((with_reducible apply RunD.op0); (· rfl); (· rfl); (· (simp only [go_sem, Int.reduceBEq, Int.reduceBNe, Int.reduceLT, Int.reduceLE, Int.reduceAdd, Int.reduceSub, Int.reduceToNat, reduceIte, Nat.reduceEqDiff, Nat.reduceAdd, Nat.reduceMul, Nat.reduceLeDiff, Nat.reduceSub, reduceCtorEq, beq_self_eq_true, bne_self_eq_false, Bool.and_self, Bool.not_true, gV_no, gV_len no]; (try simp (disch := omega) only [OM, mn_lo, mn_hi, mx_lo, mx_hi, if_yes, if_no, Option.map_some, beq_self_eq_true, bne_self_eq_false, Bool.and_self, Bool.not_true, gV_no, gV_len no]); (try with_reducible exact rfl)))) | ((with_reducible apply RunD.op1); (· rfl); (· rfl); (· (simp only [go_sem, Int.reduceBEq, Int.reduceBNe, Int.reduceLT, Int.reduceLE, Int.reduceAdd, Int.reduceSub, Int.reduceToNat, reduceIte, Nat.reduceEqDiff, Nat.reduceAdd, Nat.reduceMul, Nat.reduceLeDiff, Nat.reduceSub, reduceCtorEq, beq_self_eq_true, bne_self_eq_false, Bool.and_self, Bool.not_true, gV_no, gV_len no]; (try simp (disch := omega) only [OM, mn_lo, mn_hi, mx_lo, mx_hi, if_yes, if_no, Option.map_some, beq_self_eq_true, bne_self_eq_false, Bool.and_self, Bool.not_true, gV_no, gV_len no]); (try with_reducible exact rfl))))
                | ((with_reducible apply RunD_op0Y); (· rfl); (· (simp only [go_sem, reduceIte, Nat.reduceEqDiff]; (try with_reducible exact rfl))); (· rfl); (· (simp only [go_sem, Int.reduceBEq, Int.reduceBNe, Int.reduceLT, Int.reduceLE, Int.reduceAdd, Int.reduceSub, Int.reduceToNat, reduceIte, Nat.reduceEqDiff, Nat.reduceAdd, Nat.reduceMul, Nat.reduceLeDiff, Nat.reduceSub, reduceCtorEq, beq_self_eq_true, bne_self_eq_false, Bool.and_self, Bool.not_true, gV_no, gV_len no]; (try simp (disch := omega) only [OM, mn_lo, mn_hi, mx_lo, mx_hi, if_yes, if_no, Option.map_some, beq_self_eq_true, bne_self_eq_false, Bool.and_self, Bool.not_true, gV_no, gV_len no]); (try with_reducible exact rfl)))) | ((with_reducible apply RunD_op1Y); (· rfl); (· (simp only [go_sem, reduceIte, Nat.reduceEqDiff]; (try with_reducible exact rfl))); (· rfl); (· (simp only [go_sem, Int.reduceBEq, Int.reduceBNe, Int.reduceLT, Int.reduceLE, Int.reduceAdd, Int.reduceSub, Int.reduceToNat, reduceIte, Nat.reduceEqDiff, Nat.reduceAdd, Nat.reduceMul, Nat.reduceLeDiff, Nat.reduceSub, reduceCtorEq, beq_self_eq_true, bne_self_eq_false, Bool.and_self, Bool.not_true, gV_no, gV_len no]; (try simp (disch := omega) only [OM, mn_lo, mn_hi, mx_lo, mx_hi, if_yes, if_no, Option.map_some, beq_self_eq_true, bne_self_eq_false, Bool.and_self, Bool.not_true, gV_no, gV_len no]); (try with_reducible exact rfl))))
                | (with_reducible apply RunD.nil))
              ((with_reducible apply RunD_callY); (· rfl); (· (simp only [go_sem, reduceIte, Nat.reduceEqDiff]; (try with_reducible exact rfl))); (· (simp only [go_sem, reduceIte, Nat.reduceEqDiff]; (try with_reducible exact rfl))); (· (simp only [go_sem, reduceIte, Nat.reduceEqDiff]; (try with_reducible exact rfl))))
              refine sound_use (rall_c r o M go no (by omega)) [7] rfl (by decide) ?_ ?_ ?_ ?_ ?_; iterate 4 (· simp [-List.map_map, embAt, nm, rn_rw, rn_ro, rn_map, rn_iter, rn_dead, renL, Val.ren, wfAll, wn_rw, wn_ro, wn_map, wn_iter, wn_dead, wfL, Val.wf, Env.get, initEnv, tH, fH, fHb, TS.cells, encF_ren, encF_wf, fv_ren, fv_wf, fobj_ren, fobj_wf, gV_ren, gV_wf, gOr_ren, gOr_wf, ops_ren, ops_wf, gOh_ren, gOh_wf, rV, go])
              rintro v C' ⟨ob, hob, nob, rfl, rfl⟩
              have gob := gC_of hob
              simp only [merge, place, after, nm, MG, Val.ren, renL, rn_rw, rn_ro, rn_map, rn_iter, rn_dead, reduceIte, Nat.reduceLT, Nat.reduceAdd, Nat.reduceSub, Nat.lt_irrefl, Nat.zero_lt_one, Nat.zero_lt_succ, tH, fH, fHb, TS.cells, encF_ren, encF_wf, fv_ren, fv_wf, fobj_ren, fobj_wf, gV_ren, gV_wf, gOr_ren, gOr_wf, ops_ren, ops_wf, gOh_ren, gOh_wf, rV, hg, go, goa, gob]
              refine And.intro ?_ ?_
              · repeat (first | exact recheck_nil | refine recheck_cons (by first | exact .inl rfl | exact .inr (by (simp only [go_sem, Int.reduceBEq, Int.reduceBNe, Int.reduceLT, Int.reduceLE, Int.reduceAdd, Int.reduceSub, Int.reduceToNat, reduceIte, Nat.reduceEqDiff, Nat.reduceAdd, Nat.reduceMul, Nat.reduceLeDiff, Nat.reduceSub, reduceCtorEq, beq_self_eq_true, bne_self_eq_false, Bool.and_self, Bool.not_true, gV_no, gV_len no]; (try simp (disch := omega) only [OM, mn_lo, mn_hi, mx_lo, mx_hi, if_yes, if_no, Option.map_some, beq_self_eq_true, bne_self_eq_false, Bool.and_self, Bool.not_true, gV_no, gV_len no]); (try with_reducible exact rfl)))) ?_)
              repeat (first
                | ((with_reducible apply RunD.op0); (· rfl); (· rfl); (· (simp only [go_sem, Int.reduceBEq, Int.reduceBNe, Int.reduceLT, Int.reduceLE, Int.reduceAdd, Int.reduceSub, Int.reduceToNat, reduceIte, Nat.reduceEqDiff, Nat.reduceAdd, Nat.reduceMul, Nat.reduceLeDiff, Nat.reduceSub, reduceCtorEq, beq_self_eq_true, bne_self_eq_false, Bool.and_self, Bool.not_true, gV_no, gV_len no]; (try simp (disch := omega) only [OM, mn_lo, mn_hi, mx_lo, mx_hi, if_yes, if_no, Option.map_some, beq_self_eq_true, bne_self_eq_false, Bool.and_self, Bool.not_true, gV_no, gV_len no]); (try with_reducible exact rfl)))) | ((with_reducible apply RunD.op1); (· rfl); (· rfl); (· (simp only [go_sem, Int.reduceBEq, Int.reduceBNe, Int.reduceLT, Int.reduceLE, Int.reduceAdd, Int.reduceSub, Int.reduceToNat, reduceIte, Nat.reduceEqDiff, Nat.reduceAdd, Nat.reduceMul, Nat.reduceLeDiff, Nat.reduceSub, reduceCtorEq, beq_self_eq_true, bne_self_eq_false, Bool.and_self, Bool.not_true, gV_no, gV_len no]; (try simp (disch := omega) only [OM, mn_lo, mn_hi, mx_lo, mx_hi, if_yes, if_no, Option.map_some, beq_self_eq_true, bne_self_eq_false, Bool.and_self, Bool.not_true, gV_no, gV_len no]); (try with_reducible exact rfl))))
                | ((with_reducible apply RunD_op0Y); (· rfl); (· (simp only [go_sem, reduceIte, Nat.reduceEqDiff]; (try with_reducible exact rfl))); (· rfl); (· (simp only [go_sem, Int.reduceBEq, Int.reduceBNe, Int.reduceLT, Int.reduceLE, Int.reduceAdd, Int.reduceSub, Int.reduceToNat, reduceIte, Nat.reduceEqDiff, Nat.reduceAdd, Nat.reduceMul, Nat.reduceLeDiff, Nat.reduceSub, reduceCtorEq, beq_self_eq_true, bne_self_eq_false, Bool.and_self, Bool.not_true, gV_no, gV_len no]; (try simp (disch := omega) only [OM, mn_lo, mn_hi, mx_lo, mx_hi, if_yes, if_no, Option.map_some, beq_self_eq_true, bne_self_eq_false, Bool.and_self, Bool.not_true, gV_no, gV_len no]); (try with_reducible exact rfl)))) | ((with_reducible apply RunD_op1Y); (· rfl); (· (simp only [go_sem, reduceIte, Nat.reduceEqDiff]; (try with_reducible exact rfl))); (· rfl); (· (simp only [go_sem, Int.reduceBEq, Int.reduceBNe, Int.reduceLT, Int.reduceLE, Int.reduceAdd, Int.reduceSub, Int.reduceToNat, reduceIte, Nat.reduceEqDiff, Nat.reduceAdd, Nat.reduceMul, Nat.reduceLeDiff, Nat.reduceSub, reduceCtorEq, beq_self_eq_true, bne_self_eq_false, Bool.and_self, Bool.not_true, gV_no, gV_len no]; (try simp (disch := omega) only [OM, mn_lo, mn_hi, mx_lo, mx_hi, if_yes, if_no, Option.map_some, beq_self_eq_true, bne_self_eq_false, Bool.and_self, Bool.not_true, gV_no, gV_len no]); (try with_reducible exact rfl))))
                | (with_reducible apply RunD.nil))
              ((with_reducible apply RunD_callY); (· rfl); (· (simp only [go_sem, reduceIte, Nat.reduceEqDiff]; (try with_reducible exact rfl))); (· (simp only [go_sem, reduceIte, Nat.reduceEqDiff]; (try with_reducible exact rfl))); (· (simp only [go_sem, reduceIte, Nat.reduceEqDiff]; (try with_reducible exact rfl))))
              refine sound_use (handles_c M oa ob hoa hob noa nob (by omega)) [10, 11] rfl (by decide) ?_ ?_ ?_ ?_ ?_; iterate 4 (· simp [-List.map_map, embAt, nm, rn_rw, rn_ro, rn_map, rn_iter, rn_dead, renL, Val.ren, wfAll, wn_rw, wn_ro, wn_map, wn_iter, wn_dead, wfL, Val.wf, Env.get, initEnv, tH, fH, fHb, TS.cells, encF_ren, encF_wf, fv_ren, fv_wf, fobj_ren, fobj_wf, gV_ren, gV_wf, gOr_ren, gOr_wf, ops_ren, ops_wf, gOh_ren, gOh_wf, rV, goa, gob])
              rintro v C' ⟨rfl, rfl⟩
              simp only [merge, place, after, nm, MG, Val.ren, renL, rn_rw, rn_ro, rn_map, rn_iter, rn_dead, reduceIte, Nat.reduceLT, Nat.reduceAdd, Nat.reduceSub, Nat.lt_irrefl, Nat.zero_lt_one, Nat.zero_lt_succ, tH, fH, fHb, TS.cells, encF_ren, encF_wf, fv_ren, fv_wf, fobj_ren, fobj_wf, gV_ren, gV_wf, gOr_ren, gOr_wf, ops_ren, ops_wf, gOh_ren, gOh_wf, rV, hg, go, goa, gob]
              refine And.intro ?_ ?_
              · repeat (first | exact recheck_nil | refine recheck_cons (by first | exact .inl rfl | exact .inr (by (simp only [go_sem, Int.reduceBEq, Int.reduceBNe, Int.reduceLT, Int.reduceLE, Int.reduceAdd, Int.reduceSub, Int.reduceToNat, reduceIte, Nat.reduceEqDiff, Nat.reduceAdd, Nat.reduceMul, Nat.reduceLeDiff, Nat.reduceSub, reduceCtorEq, beq_self_eq_true, bne_self_eq_false, Bool.and_self, Bool.not_true, gV_no, gV_len no]; (try simp (disch := omega) only [OM, mn_lo, mn_hi, mx_lo, mx_hi, if_yes, if_no, Option.map_some, beq_self_eq_true, bne_self_eq_false, Bool.and_self, Bool.not_true, gV_no, gV_len no]); (try with_reducible exact rfl)))) ?_)
              repeat (first
                | ((with_reducible apply RunD.op0); (· rfl); (· rfl); (· (simp only [go_sem, Int.reduceBEq, Int.reduceBNe, Int.reduceLT, Int.reduceLE, Int.reduceAdd, Int.reduceSub, Int.reduceToNat, reduceIte, Nat.reduceEqDiff, Nat.reduceAdd, Nat.reduceMul, Nat.reduceLeDiff, Nat.reduceSub, reduceCtorEq, beq_self_eq_true, bne_self_eq_false, Bool.and_self, Bool.not_true, gV_no, gV_len no]; (try simp (disch := omega) only [OM, mn_lo, mn_hi, mx_lo, mx_hi, if_yes, if_no, Option.map_some, beq_self_eq_true, bne_self_eq_false, Bool.and_self, Bool.not_true, gV_no, gV_len no]); (try with_reducible exact rfl)))) | ((with_reducible apply RunD.op1); (· rfl); (· rfl); (· (simp only [go_sem, Int.reduceBEq, Int.reduceBNe, Int.reduceLT, Int.reduceLE, Int.reduceAdd, Int.reduceSub, Int.reduceToNat, reduceIte, Nat.reduceEqDiff, Nat.reduceAdd, Nat.reduceMul, Nat.reduceLeDiff, Nat.reduceSub, reduceCtorEq, beq_self_eq_true, bne_self_eq_false, Bool.and_self, Bool.not_true, gV_no, gV_len no]; (try simp (disch := omega) only [OM, mn_lo, mn_hi, mx_lo, mx_hi, if_yes, if_no, Option.map_some, beq_self_eq_true, bne_self_eq_false, Bool.and_self, Bool.not_true, gV_no, gV_len no]); (try with_reducible exact rfl))))
                | ((with_reducible apply RunD_op0Y); (· rfl); (· (simp only [go_sem, reduceIte, Nat.reduceEqDiff]; (try with_reducible exact rfl))); (· rfl); (· (simp only [go_sem, Int.reduceBEq, Int.reduceBNe, Int.reduceLT, Int.reduceLE, Int.reduceAdd, Int.reduceSub, Int.reduceToNat, reduceIte, Nat.reduceEqDiff, Nat.reduceAdd, Nat.reduceMul, Nat.reduceLeDiff, Nat.reduceSub, reduceCtorEq, beq_self_eq_true, bne_self_eq_false, Bool.and_self, Bool.not_true, gV_no, gV_len no]; (try simp (disch := omega) only [OM, mn_lo, mn_hi, mx_lo, mx_hi, if_yes, if_no, Option.map_some, beq_self_eq_true, bne_self_eq_false, Bool.and_self, Bool.not_true, gV_no, gV_len no]); (try with_reducible exact rfl)))) | ((with_reducible apply RunD_op1Y); (· rfl); (· (simp only [go_sem, reduceIte, Nat.reduceEqDiff]; (try with_reducible exact rfl))); (· rfl); (· (simp only [go_sem, Int.reduceBEq, Int.reduceBNe, Int.reduceLT, Int.reduceLE, Int.reduceAdd, Int.reduceSub, Int.reduceToNat, reduceIte, Nat.reduceEqDiff, Nat.reduceAdd, Nat.reduceMul, Nat.reduceLeDiff, Nat.reduceSub, reduceCtorEq, beq_self_eq_true, bne_self_eq_false, Bool.and_self, Bool.not_true, gV_no, gV_len no]; (try simp (disch := omega) only [OM, mn_lo, mn_hi, mx_lo, mx_hi, if_yes, if_no, Option.map_some, beq_self_eq_true, bne_self_eq_false, Bool.and_self, Bool.not_true, gV_no, gV_len no]); (try with_reducible exact rfl))))
                | (with_reducible apply RunD.nil))
              refine GG0 ?_
              refine ⟨l1.length - (i + 1), by omega, i + 1, by omega, rfl, q, o, M, hq, hr, go, no, ?_⟩
              (refine anew [0, 1, 2, 3, 4, 5, 6, 7] ?_ (by decide) ?_ ?_ ?_ rfl ?_ ?_ <;> simp [-List.map_map, embAt, nm, rn_rw, rn_ro, rn_map, rn_iter, rn_dead, renL, Val.ren, wfAll, wn_rw, wn_ro, wn_map, wn_iter, wn_dead, wfL, Val.wf, Env.get, initEnv, tH, fH, fHb, TS.cells, encF_ren, encF_wf, fv_ren, fv_wf, fobj_ren, fobj_wf, gV_ren, gV_wf, gOr_ren, gOr_wf, ops_ren, ops_wf, gOh_ren, gOh_wf, rV, hg, go, gV_new])
end Go.Proofs.Ytjahkgfihdngkaa.IR
