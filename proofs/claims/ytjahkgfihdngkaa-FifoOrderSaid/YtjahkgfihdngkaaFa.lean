/- This text of a proof shows: how a queue's row is searched. -/
import Derived.Test.YtjahkgfihdngkaaGg
import Derived.Test.YtjahkgfihdngkaaTf
import Derived.Test.YtjahkgfihdngkaaFp
set_option linter.unusedVariables false
set_option linter.unusedSimpArgs false
set_option linter.constructorNameAsVariable false
namespace Go.Proofs.Ytjahkgfihdngkaa.IR
open Go Go.Proofs.Ytjahkgfihdngkaa.Ev Go.Proofs.Ytjahkgfihdngkaa.Ev.Rb
set_option linter.unusedSimpArgs false
set_option linter.unusedVariables false
set_option maxHeartbeats 4000000
attribute [local go_sem] skipV nc0 nc1 nc2 nc3 bne_self_eq_false decide_true decide_false IOp.step Opd.ev Env.get initEnv Val.cells? Val.one List.all_cons List.all_nil Bool.and_true Bool.and_self Bool.true_and bin ints eqv Val.kindNo lenNo_s lenNo_nils lenNo_sl lenNo_nilm lenNo_m lenOf_s lenOf_nils lenOf_sl lenOf_nilm unary partsOf padTo List.foldl_cons List.foldl_nil wr_nil wr_step wr_zero List.set_cons_zero List.set_cons_succ List.map_cons List.map_nil z1 z2 Nat.succ_ne_zero List.length_cons List.length_nil List.cons_append List.nil_append List.append_nil List.getElem?_cons_zero List.getElem?_cons_succ List.getElem?_nil Option.map_some Option.map_none Nat.zero_add Nat.add_zero List.drop_zero List.drop_succ_cons List.take_succ_cons List.take_zero List.take_nil and_self and_true true_and Nat.le_refl Bool.not_true Bool.not_false Option.getD_some window Val.slen bnd resV resL RV.val Bool.false_eq_true BEq.rfl Bool.true_beq Bool.false_beq beq_true beq_false mk_one ite_true ite_false eqc ceqs ceq NOp.step isK eq_self
attribute [local go_sem] Bool.and_false Bool.false_and gV_no
def itC (x : Int × Int × Int) : List Val := [.i .u64 x.2.2, .i .u64 x.1, .i .u64 x.2.1]
def rowC (l : List (Int × Int × Int)) : List Val := l.flatMap itC
theorem rowC_ren (ι : Nat → Nat) (l : List (Int × Int × Int)) : renL ι (rowC l) = rowC l := renL_flat ι l fun _ => rfl
theorem rowC_wf (m : Nat) (l : List (Int × Int × Int)) : wfL m (rowC l) = true := wfL_flat m (fun _ => rfl) l
theorem rowC_length (l : List (Int × Int × Int)) : (rowC l).length = l.length * 3 := by
  induction l with
  | nil => rfl
  | cons x l ih => simp [rowC, itC] at ih ⊢; omega
theorem rowC_snoc (l : List (Int × Int × Int)) (x : Int × Int × Int) : rowC l ++ itC x = rowC (l ++ [x]) := by simp [rowC]
theorem gOr_ren {ι : Nat → Nat} {o : GO} {l : List (Int × Int × Int)} (h : gC o) : (gO o (rowC l)).ren ι = gO o (rowC l) := gO_ren h (rowC_ren ι l)
theorem gOr_wf {m : Nat} {o : GO} {l : List (Int × Int × Int)} (h : gC o) : (gO o (rowC l)).wf m = true := gO_wf h (rowC_wf m l)
theorem row_win {l : List (Int × Int × Int)} {i : Nat} {x : Int × Int × Int} (h : l[i]? = some x) (j k : List Val) : ((j ++ (rowC l ++ k)).drop (j.length + i * 3)).take 3 = itC x ∧ ((j ++ (rowC l ++ k)).drop (j.length + i * 3 + 1)).take 2 = [.i .u64 x.1, .i .u64 x.2.1] ∧ j.length + i * 3 + 3 ≤ (j ++ (rowC l ++ k)).length ∧ j.length + i * 3 + 1 + 2 ≤ (j ++ (rowC l ++ k)).length := by
  have hi : i < l.length := (List.getElem?_eq_some_iff.1 h).1
  have hl := rowC_length l
  obtain ⟨a, b, rfl, rfl⟩ : ∃ a b, l = a ++ x :: b ∧ i = a.length := ⟨l.take i, l.drop (i + 1), by
    have e : l[i] = x := (List.getElem?_eq_some_iff.1 h).2
    rw [← e, List.getElem_cons_drop, List.take_append_drop], by simp; omega⟩
  have e1 : j ++ (rowC (a ++ x :: b) ++ k) = (j ++ rowC a) ++ (itC x ++ (rowC b ++ k)) := by simp [rowC]
  have e2 : (j ++ rowC a).length = j.length + a.length * 3 := by simp [rowC_length]
  refine ⟨?_, ?_, ?_, ?_⟩
  · rw [e1, ← e2, List.drop_left]; rfl
  · rw [e1, ← e2, ← List.drop_drop, List.drop_left]; rfl
  · rw [List.length_append, List.length_append, hl]; simp; omega
  · rw [List.length_append, List.length_append, hl]; simp; omega
theorem fless_c (a b c d : Int) : SoundM Try.prog 0 28 [.agg [.i .u64 a, .i .u64 b], .agg [.i .u64 c, .i .u64 d]] [] (fun v H => v = .b (decide (klt (a, b) (c, d))) ∧ H = []) := by
  refine sound_told (sound_func Try.func28 c28 rfl (by simp) ?_)
  simp only [e28]
  have key : ∀ x : Bool, x = decide (klt (a, b) (c, d)) → Ev.Told 0 (fun v H => v = .b (decide (klt (a, b) (c, d))) ∧ H = []) (.b x) [.rw [.i .u64 a, .i .u64 b], .rw [.i .u64 c, .i .u64 d]] := by
    rintro x rfl
    refine told [] [] (.b (decide (klt (a, b) (c, d)))) ?_ (by decide) ?_ ?_ ?_ rfl ?_ ?_ ?_; iterate 6 (· simp [-List.map_map, embAt, nm, rn_rw, rn_ro, rn_map, rn_iter, rn_dead, renL, Val.ren, wfAll, wn_rw, wn_ro, wn_map, wn_iter, wn_dead, wfL, Val.wf, Env.get, initEnv, Val.ren])
    exact ⟨rfl, rfl⟩
  by_cases h2 : a = c
  · subst h2
    have h2b : (a == a) = true := by simp
    have hl : ¬ a < a := by omega
    by_cases h3 : b = d
    · subst h3
      have h3b : (b == b) = true := by simp
      (have g0 := h2b; have g1 := h3b; refine GG2 ?_; clear g0 g1)
      refine key false ?_
      exact (decide_f (klt_irrefl _)).symm
    · have h3b : (b == d) = false := by simpa using h3
      (have g0 := h2b; have g1 := h3b; have g2 := decide_f hl; refine GG3 ?_; clear g0 g1 g2)
      refine key _ ?_
      exact decide_eq_decide.2 ⟨fun h => .inr ⟨rfl, h⟩, fun h => by rcases h with h | h; exact absurd h hl; exact h.2⟩
  · have h2b : (a == c) = false := by simpa using h2
    by_cases h1 : a < c
    · (have g0 := h2b; have g1 := decide_t h1; refine GG2 ?_; clear g0 g1)
      refine key true ?_
      exact (decide_t (show klt (a, b) (c, d) from .inl h1)).symm
    · (have g0 := h2b; have g1 := decide_f h1; refine GG2 ?_; clear g0 g1)
      refine key false ?_
      refine (decide_f ?_).symm
      rintro (h | h)
      · exact h1 h
      · exact h2 h.1
theorem fless_ok (a b c d : Int) (H : Heap) : SoundCall Try.prog 28 [.agg [.i .u64 a, .i .u64 b], .agg [.i .u64 c, .i .u64 d]] H (fun v H' => v = .b (decide (klt (a, b) (c, d))) ∧ H' = H) :=
  sound_alone (fless_c a b c d) (by simp [wfL, Val.wf]) (fun ι => by simp [renL, Val.ren]) (fun ι => rfl) H
/-- How a key stands to another one. -/
def cmpK (a b : Int × Int) : Int := if a = b then 0 else if klt a b then -1 else 1
theorem hasf_c (h a b c d : Int) : SoundM Try.prog 0 39 [.agg [.i .u64 h, .i .u64 a, .i .u64 b], .agg [.i .u64 c, .i .u64 d]] [] (fun v H => v = .i .i64 (cmpK (a, b) (c, d)) ∧ H = []) := by
  refine sound_told (sound_func Try.func39 c39 rfl (by simp) ?_)
  simp only [e39]
  by_cases he : a = c ∧ b = d
  · obtain ⟨rfl, rfl⟩ := he
    have h2b : (a == a) = true := by simp
    have h3b : (b == b) = true := by simp
    (have g0 := h2b; have g1 := h3b; refine GG2 ?_; clear g0 g1)
    refine told [] [] (.i .i64 0) ?_ (by decide) ?_ ?_ ?_ rfl ?_ ?_ ?_; iterate 6 (· simp [-List.map_map, embAt, nm, rn_rw, rn_ro, rn_map, rn_iter, rn_dead, renL, Val.ren, wfAll, wn_rw, wn_ro, wn_map, wn_iter, wn_dead, wfL, Val.wf, Env.get, initEnv, Val.ren])
    exact ⟨by simp [cmpK], rfl⟩
  · have hbb : ((a == c) && ((b == d) && true)) = false := by
      simp only [Bool.and_true, Bool.and_eq_false_iff, beq_eq_false_iff_ne]
      by_cases h : a = c
      · exact .inr fun e => he ⟨h, e⟩
      · exact .inl h
    have hbb' : ((a == c) && (b == d)) = false := by rw [Bool.and_true] at hbb; exact hbb
    have hne : (a, b) ≠ (c, d) := fun e => he ⟨congrArg Prod.fst e, congrArg Prod.snd e⟩
    (have g0 := hbb; have g1 := hbb'; refine GG2 ?_; clear g0 g1)
    (first | ((with_reducible first | apply RunP.call | apply Run.call | apply Run.call0); iterate 2 (· (simp only [go_sem, reduceIte, Nat.reduceEqDiff]; (try with_reducible exact rfl)))) | ((with_reducible first | apply Run.callY | apply RunP.callY); iterate 3 (· (simp only [go_sem, reduceIte, Nat.reduceEqDiff]; (try with_reducible exact rfl)))))
    refine (fless_ok _ _ _ _ _).mono ?_
    rintro v H' ⟨rfl, rfl⟩
    (first | refine And.intro rfl ?_ | refine And.intro trivial ?_ | skip)
    by_cases hk : klt (a, b) (c, d)
    · (have g0 := decide_t hk; refine GG1 ?_; clear g0)
      refine told [] [] (.i .i64 (-1)) ?_ (by decide) ?_ ?_ ?_ rfl ?_ ?_ ?_; iterate 6 (· simp [-List.map_map, embAt, nm, rn_rw, rn_ro, rn_map, rn_iter, rn_dead, renL, Val.ren, wfAll, wn_rw, wn_ro, wn_map, wn_iter, wn_dead, wfL, Val.wf, Env.get, initEnv, Val.ren])
      exact ⟨by rw [cmpK, if_neg hne, if_pos hk], rfl⟩
    · (have g0 := decide_f hk; refine GG1 ?_; clear g0)
      refine told [] [] (.i .i64 1) ?_ (by decide) ?_ ?_ ?_ rfl ?_ ?_ ?_; iterate 6 (· simp [-List.map_map, embAt, nm, rn_rw, rn_ro, rn_map, rn_iter, rn_dead, renL, Val.ren, wfAll, wn_rw, wn_ro, wn_map, wn_iter, wn_dead, wfL, Val.wf, Env.get, initEnv, Val.ren])
      exact ⟨by rw [cmpK, if_neg hne, if_neg hk], rfl⟩
theorem hasf_ok (h a b c d : Int) (H : Heap) : SoundCall Try.prog 39 [.agg [.i .u64 h, .i .u64 a, .i .u64 b], .agg [.i .u64 c, .i .u64 d]] H (fun v H' => v = .i .i64 (cmpK (a, b) (c, d)) ∧ H' = H) :=
  sound_alone (hasf_c h a b c d) (by simp [wfL, Val.wf]) (fun ι => by simp [renL, Val.ren]) (fun ι => rfl) H
def BInv (ro : GO) (l : List (Int × Int × Int)) (k : Int × Int) (n : Nat) (ρ : Env) (H : Heap) : Prop :=
  ∃ i j : Nat, i ≤ j ∧ j ≤ l.length ∧ n = j - i ∧ (∀ p x, p < i → l[p]? = some x → klt (ekey x) k) ∧ (∀ p x, j ≤ p → l[p]? = some x → ¬ klt (ekey x) k) ∧
    AnewS 1 [gO ro (rowC l), .rw [.i .u64 k.1, .i .u64 k.2]] [(0, gV ro 0 l.length 3), (2, .fn (.func 39) [] []), (4, .p 1 0), (8, .i .i64 (l.length : Nat)), (9, .i .i64 (i : Nat)), (10, .i .i64 (j : Nat))] ρ H
theorem bsearch_c (ro : GO) (l : List (Int × Int × Int)) (k : Int × Int) (hg : gC ro) (hn : ro = none → l.length = 0) (hl : l.length ≤ 65536) (hs : Sorted l) :
    SoundM Try.prog 1 38 [gV ro 0 l.length 3, .agg [.i .u64 k.1, .i .u64 k.2], .fn (.func 39) [] []] [gO ro (rowC l)]
      (fun v H => (∃ i : Int, v = .tup [.i .i64 i, .b (has k l)]) ∧ H = [gO ro (rowC l)]) := by
  refine sound_told (sound_func Try.func38 c38 rfl (by simp) ?_)
  simp only [e38]
  (have g0 := gV_len hn; refine GG1 ?_; clear g0)
  refine ei_loop (BInv ro l k) (n := l.length) ?_ ?_
  · refine ⟨0, l.length, by omega, by omega, by omega, fun p x hp => by omega, fun p x hp hx => ?_, ?_⟩
    · rw [List.getElem?_eq_none hp] at hx; cases hx
    · (refine anew [0, 1] ?_ (by decide) ?_ ?_ ?_ rfl ?_ ?_ <;> simp [-List.map_map, embAt, nm, rn_rw, rn_ro, rn_map, rn_iter, rn_dead, renL, Val.ren, wfAll, wn_rw, wn_ro, wn_map, wn_iter, wn_dead, wfL, Val.wf, Env.get, initEnv, tH, TS.cells, encF_ren, encF_wf, fv_ren, fv_wf, fobj_ren, fobj_wf, gV_ren, gV_wf, gOr_ren, gOr_wf, hg])
  · rintro n ρ H ⟨i, j, hij, hj, rfl, h1, h2, ha⟩
    refine ei_anewS ha ?_
    clear ha
    by_cases hlt : i < j
    · have hd : ((i : Nat) : Int) < ((j : Nat) : Int) := by omega
      rcases ro with _ | ⟨a, b⟩
      · exact absurd (hn rfl) (by omega)
      obtain ⟨x, hx⟩ : ∃ x, l[(i + j) / 2]? = some x := ⟨l[(i + j) / 2], List.getElem?_eq_getElem (by omega)⟩
      obtain ⟨w1, w2, w3, w4⟩ := row_win hx a b
      have e1 : (((i : Nat) : Int) + ((j : Nat) : Int)).fdiv (2 ^ min 1 64) = (((i + j) / 2 : Nat) : Int) := by
        show (((i : Nat) : Int) + ((j : Nat) : Int)).fdiv 2 = _
        rw [Int.fdiv_eq_ediv_of_nonneg _ (by omega)]; omega
      simp only [gV_some, gO_some]
      repeat (first
    | ((first | (with_reducible first | apply Aa | apply Ab | apply Ac | apply Ad | apply Ae | apply Af | apply Na | apply Nb) | ((with_reducible first | apply Ag | apply Ah | apply Nc); · (simp only [go_sem, reduceIte, Nat.reduceEqDiff, decide_t hd, e1, nat_toNat, w1, itC]; (try with_reducible exact rfl)))); · (simp only [go_sem, Int.reduceBEq, Int.reduceBNe, Int.reduceLT, Int.reduceLE, Int.reduceAdd, Int.reduceSub, Int.reduceToNat, reduceIte, Nat.reduceEqDiff, Nat.reduceAdd, Nat.reduceMul, Nat.reduceLeDiff, Nat.reduceSub, reduceCtorEq, decide_t hd, e1, nat_toNat, w1, itC]; (try simp (disch := omega) only [OM, mn_lo, mn_hi, mx_lo, mx_hi, if_yes, if_no, Option.map_some, decide_t hd, e1, nat_toNat, w1, itC]); (try with_reducible exact rfl)))
    | ((with_reducible first | apply Ba | apply Bb | apply Bc | apply Bd | apply Be | apply Nd); · (simp only [go_sem, reduceIte, Nat.reduceEqDiff, decide_t hd, e1, nat_toNat, w1, itC]; (try with_reducible exact rfl))) | ((with_reducible first | apply Ca | apply Cb | apply Cc | apply Cd | apply Ce | apply Ne); · (simp only [go_sem, reduceIte, Nat.reduceEqDiff, decide_t hd, e1, nat_toNat, w1, itC]; (try with_reducible exact rfl)))
    | ((with_reducible first | apply Dg | apply Dh); (· decide +kernel); (· (simp only [inOrd, List.getElem?_cons_succ, List.getElem?_cons_zero]; exact rfl)))
    | ((with_reducible first | apply De | apply Df); (· decide +kernel); (· (simp only [inOrd, List.getElem?_cons_succ, List.getElem?_cons_zero]; exact rfl)))
    | (with_reducible first | apply Ea | apply Eb | apply Ec | apply Ed | apply Ee | apply Ef | apply Eg | apply Eh | apply Ei | apply Ej | apply Ek | apply El | apply Em | apply En | apply Eo) | ((with_reducible apply Ep); · rfl))
      (first | ((with_reducible first | apply RunP.call | apply Run.call | apply Run.call0); iterate 2 (· (simp only [go_sem, reduceIte, Nat.reduceEqDiff]; (try with_reducible exact rfl)))) | ((with_reducible first | apply Run.callY | apply RunP.callY); iterate 3 (· (simp only [go_sem, reduceIte, Nat.reduceEqDiff]; (try with_reducible exact rfl)))))
      refine (hasf_ok _ _ _ _ _ _).mono ?_
      rintro v H' ⟨rfl, rfl⟩
      (first | refine And.intro rfl ?_ | refine And.intro trivial ?_ | skip)
      by_cases hk : klt (ekey x) k
      · have hc : cmpK (x.1, x.2.1) (k.1, k.2) < 0 := by
          have h0 : (x.1, x.2.1) ≠ (k.1, k.2) := by intro e; have e' : ekey x = k := e; rw [e'] at hk; exact klt_irrefl _ hk
          rw [cmpK, if_neg h0, if_pos (show klt (x.1, x.2.1) (k.1, k.2) from hk)]; decide
        (have g0 := decide_t hc; refine GG1 ?_; clear g0)
        refine ⟨j - ((i + j) / 2 + 1), by omega, (i + j) / 2 + 1, j, by omega, hj, rfl, fun p y hp hy => ?_, h2, ?_⟩
        · by_cases e : p = (i + j) / 2
          · subst e; rw [hx] at hy; cases hy; exact hk
          · have hpl : p < (i + j) / 2 := by omega
            have hs' := List.pairwise_iff_getElem.1 hs
            have hp1 := List.getElem?_eq_some_iff.1 hy
            have hp2 := List.getElem?_eq_some_iff.1 hx
            have := hs' p ((i + j) / 2) hp1.1 hp2.1 hpl
            rw [hp1.2, hp2.2] at this
            exact klt_trans this hk
        · (refine anew [0, 1] ?_ (by decide) ?_ ?_ ?_ rfl ?_ ?_ <;> simp [-List.map_map, embAt, nm, rn_rw, rn_ro, rn_map, rn_iter, rn_dead, renL, Val.ren, wfAll, wn_rw, wn_ro, wn_map, wn_iter, wn_dead, wfL, Val.wf, Env.get, initEnv, tH, TS.cells, encF_ren, encF_wf, fv_ren, fv_wf, fobj_ren, fobj_wf, gV_ren, gV_wf, gOr_ren, gOr_wf, gO_some, gV_some, renL_append, wfL_append, rowC_ren, rowC_wf, hg.1, hg.2.1, hg.2.2.1, hg.2.2.2])
      · have hc : ¬ cmpK (x.1, x.2.1) (k.1, k.2) < 0 := by
          rw [cmpK]
          split
          · decide
          · rw [if_neg (show ¬ klt (x.1, x.2.1) (k.1, k.2) from hk)]; decide
        (have g0 := decide_f hc; refine GG1 ?_; clear g0)
        refine ⟨(i + j) / 2 - i, by omega, i, (i + j) / 2, by omega, by omega, rfl, h1, fun p y hp hy => ?_, ?_⟩
        · by_cases e : p = (i + j) / 2
          · subst e; rw [hx] at hy; cases hy; exact hk
          · have hpl : (i + j) / 2 < p := by omega
            have hs' := List.pairwise_iff_getElem.1 hs
            have hp1 := List.getElem?_eq_some_iff.1 hy
            have hp2 := List.getElem?_eq_some_iff.1 hx
            have := hs' ((i + j) / 2) p hp2.1 hp1.1 hpl
            rw [hp1.2, hp2.2] at this
            exact fun c => hk (klt_trans this c)
        · (refine anew [0, 1] ?_ (by decide) ?_ ?_ ?_ rfl ?_ ?_ <;> simp [-List.map_map, embAt, nm, rn_rw, rn_ro, rn_map, rn_iter, rn_dead, renL, Val.ren, wfAll, wn_rw, wn_ro, wn_map, wn_iter, wn_dead, wfL, Val.wf, Env.get, initEnv, tH, TS.cells, encF_ren, encF_wf, fv_ren, fv_wf, fobj_ren, fobj_wf, gV_ren, gV_wf, gOr_ren, gOr_wf, gO_some, gV_some, renL_append, wfL_append, rowC_ren, rowC_wf, hg.1, hg.2.1, hg.2.2.1, hg.2.2.2])
    · have hd : ¬ ((i : Nat) : Int) < ((j : Nat) : Int) := by omega
      have hij' : i = j := by omega
      subst hij'
      by_cases hin : i < l.length
      · have hd2 : ((i : Nat) : Int) < ((l.length : Nat) : Int) := by omega
        rcases ro with _ | ⟨a, b⟩
        · exact absurd (hn rfl) (by omega)
        obtain ⟨x, hx⟩ : ∃ x, l[i]? = some x := ⟨l[i], List.getElem?_eq_getElem hin⟩
        obtain ⟨w1, w2, w3, w4⟩ := row_win hx a b
        have hxk := h2 i x (Nat.le_refl _) hx
        simp only [gV_some, gO_some]
        repeat (first
    | ((first | (with_reducible first | apply Aa | apply Ab | apply Ac | apply Ad | apply Ae | apply Af | apply Na | apply Nb) | ((with_reducible first | apply Ag | apply Ah | apply Nc); · (simp only [go_sem, reduceIte, Nat.reduceEqDiff, decide_f hd, decide_t hd2, nat_toNat, w1, itC]; (try with_reducible exact rfl)))); · (simp only [go_sem, Int.reduceBEq, Int.reduceBNe, Int.reduceLT, Int.reduceLE, Int.reduceAdd, Int.reduceSub, Int.reduceToNat, reduceIte, Nat.reduceEqDiff, Nat.reduceAdd, Nat.reduceMul, Nat.reduceLeDiff, Nat.reduceSub, reduceCtorEq, decide_f hd, decide_t hd2, nat_toNat, w1, itC]; (try simp (disch := omega) only [OM, mn_lo, mn_hi, mx_lo, mx_hi, if_yes, if_no, Option.map_some, decide_f hd, decide_t hd2, nat_toNat, w1, itC]); (try with_reducible exact rfl)))
    | ((with_reducible first | apply Ba | apply Bb | apply Bc | apply Bd | apply Be | apply Nd); · (simp only [go_sem, reduceIte, Nat.reduceEqDiff, decide_f hd, decide_t hd2, nat_toNat, w1, itC]; (try with_reducible exact rfl))) | ((with_reducible first | apply Ca | apply Cb | apply Cc | apply Cd | apply Ce | apply Ne); · (simp only [go_sem, reduceIte, Nat.reduceEqDiff, decide_f hd, decide_t hd2, nat_toNat, w1, itC]; (try with_reducible exact rfl)))
    | ((with_reducible first | apply Dg | apply Dh); (· decide +kernel); (· (simp only [inOrd, List.getElem?_cons_succ, List.getElem?_cons_zero]; exact rfl)))
    | ((with_reducible first | apply De | apply Df); (· decide +kernel); (· (simp only [inOrd, List.getElem?_cons_succ, List.getElem?_cons_zero]; exact rfl)))
    | (with_reducible first | apply Ea | apply Eb | apply Ec | apply Ed | apply Ee | apply Ef | apply Eg | apply Eh | apply Ei | apply Ej | apply Ek | apply El | apply Em | apply En | apply Eo) | ((with_reducible apply Ep); · rfl))
        (first | ((with_reducible first | apply RunP.call | apply Run.call | apply Run.call0); iterate 2 (· (simp only [go_sem, reduceIte, Nat.reduceEqDiff]; (try with_reducible exact rfl)))) | ((with_reducible first | apply Run.callY | apply RunP.callY); iterate 3 (· (simp only [go_sem, reduceIte, Nat.reduceEqDiff]; (try with_reducible exact rfl)))))
        refine (hasf_ok _ _ _ _ _ _).mono ?_
        rintro v H' ⟨rfl, rfl⟩
        (first | refine And.intro rfl ?_ | refine And.intro trivial ?_ | skip)
        have hh : has k l = (cmpK (x.1, x.2.1) (k.1, k.2) == 0) := by
          by_cases e : ekey x = k
          · have e1 : cmpK (x.1, x.2.1) (k.1, k.2) = 0 := by rw [cmpK, if_pos (show (x.1, x.2.1) = (k.1, k.2) from e)]
            rw [e1, has_iff.2 ⟨x, List.mem_of_getElem? hx, e⟩]; rfl
          · have e1 : cmpK (x.1, x.2.1) (k.1, k.2) = 1 := by rw [cmpK, if_neg (show ¬ (x.1, x.2.1) = (k.1, k.2) from e), if_neg (show ¬ klt (x.1, x.2.1) (k.1, k.2) from hxk)]
            rw [e1]
            have : ¬ has k l = true := by
              rw [has_iff]
              rintro ⟨y, hy, rfl⟩
              obtain ⟨p, hp, rfl⟩ := List.getElem_of_mem hy
              rcases Nat.lt_trichotomy p i with c | c | c
              · exact klt_irrefl _ (h1 p _ c (List.getElem?_eq_getElem hp))
              · subst c; rw [List.getElem?_eq_getElem hp] at hx; cases hx; exact e rfl
              · have hs' := List.pairwise_iff_getElem.1 hs i p hin hp c
                have hx' := (List.getElem?_eq_some_iff.1 hx).2
                rw [hx'] at hs'; exact hxk hs'
            simpa using this
        refine GG0 ?_
        rw [hh]
        refine told [0] [gO (some (a, b)) (rowC l)] (.tup [.i .i64 (i : Nat), .b (cmpK (x.1, x.2.1) (k.1, k.2) == 0)]) ?_ (by decide) ?_ ?_ ?_ rfl ?_ ?_ ?_; iterate 6 (· simp [-List.map_map, embAt, nm, rn_rw, rn_ro, rn_map, rn_iter, rn_dead, renL, Val.ren, wfAll, wn_rw, wn_ro, wn_map, wn_iter, wn_dead, wfL, Val.wf, Env.get, initEnv, tH, TS.cells, encF_ren, encF_wf, fv_ren, fv_wf, fobj_ren, fobj_wf, gV_ren, gV_wf, gOr_ren, gOr_wf, gO_some, gV_some, renL_append, wfL_append, rowC_ren, rowC_wf, hg.1, hg.2.1, hg.2.2.1, hg.2.2.2])
        exact ⟨⟨_, rfl⟩, rfl⟩
      · have hd2 : ¬ ((i : Nat) : Int) < ((l.length : Nat) : Int) := by omega
        have hh : has k l = false := by
          have : ¬ has k l = true := by
            rw [has_iff]
            rintro ⟨y, hy, rfl⟩
            obtain ⟨p, hp, rfl⟩ := List.getElem_of_mem hy
            exact klt_irrefl _ (h1 p _ (by omega) (List.getElem?_eq_getElem hp))
          simpa using this
        (have g0 := decide_f hd; have g1 := decide_f hd2; refine GG2 ?_; clear g0 g1)
        rw [hh]
        refine told [0] [gO ro (rowC l)] (.tup [.i .i64 (i : Nat), .b false]) ?_ (by decide) ?_ ?_ ?_ rfl ?_ ?_ ?_; iterate 6 (· simp [-List.map_map, embAt, nm, rn_rw, rn_ro, rn_map, rn_iter, rn_dead, renL, Val.ren, wfAll, wn_rw, wn_ro, wn_map, wn_iter, wn_dead, wfL, Val.wf, Env.get, initEnv, tH, TS.cells, encF_ren, encF_wf, fv_ren, fv_wf, fobj_ren, fobj_wf, gV_ren, gV_wf, gOr_ren, gOr_wf, hg])
        exact ⟨⟨_, rfl⟩, rfl⟩
end Go.Proofs.Ytjahkgfihdngkaa.IR
