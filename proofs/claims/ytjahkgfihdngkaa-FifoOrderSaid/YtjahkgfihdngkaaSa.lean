/- This text of a proof shows: what sorts a few elements, one by one. -/
import Derived.Test.YtjahkgfihdngkaaGg
import Derived.Test.YtjahkgfihdngkaaSi11
set_option linter.unusedVariables false
set_option linter.unusedSimpArgs false
set_option linter.constructorNameAsVariable false
namespace Go.Proofs.Ytjahkgfihdngkaa.IR
open Go Go.Proofs.Ytjahkgfihdngkaa.Ev Go.Proofs.Ytjahkgfihdngkaa.Ev.Rb Go.Proofs.Ytjahkgfihdngkaa.Ev.So
set_option linter.unusedSimpArgs false
set_option linter.unusedVariables false
set_option maxHeartbeats 4000000
attribute [local go_sem] skipV nc0 nc1 nc2 nc3 bne_self_eq_false decide_true decide_false IOp.step Opd.ev Env.get initEnv Val.cells? Val.one List.all_cons List.all_nil Bool.and_true Bool.and_self Bool.true_and bin ints eqv Val.kindNo lenNo_s lenNo_nils lenNo_sl lenNo_nilm lenNo_m lenOf_s lenOf_nils lenOf_sl lenOf_nilm unary partsOf padTo List.foldl_cons List.foldl_nil wr_nil wr_step wr_zero List.set_cons_zero List.set_cons_succ List.map_cons List.map_nil z1 z2 Nat.succ_ne_zero List.length_cons List.length_nil List.cons_append List.nil_append List.append_nil List.getElem?_cons_zero List.getElem?_cons_succ List.getElem?_nil Option.map_some Option.map_none Nat.zero_add Nat.add_zero List.drop_zero List.drop_succ_cons List.take_succ_cons List.take_zero List.take_nil and_self and_true true_and Nat.le_refl Bool.not_true Bool.not_false Option.getD_some window Val.slen bnd resV resL RV.val Bool.false_eq_true BEq.rfl Bool.true_beq Bool.false_beq beq_true beq_false mk_one ite_true ite_false eqc ceqs ceq NOp.step isK eq_self
attribute [local go_sem] nat_toNat en_all en3
def rC (f : Row) (n : Nat) : List Val := encR enE f n
theorem rC_ren (ι : Nat → Nat) (f : Row) (n : Nat) : renL ι (rC f n) = rC f n := encR_ren en_ren ι f n
theorem rC_wf (m : Nat) (f : Row) (n : Nat) : wfL m (rC f n) = true := encR_wf en_wf m f n
theorem rC_len (f : Row) (n : Nat) : (rC f n).length = n * 3 := encR_length en3 f n
theorem rC_get {f : Row} {n i : Nat} (h : i < n) : ((rC f n).drop (i * 3)).take 3 = enE (f i) := encR_get en3 f n h
theorem rC_wr {f : Row} {n i : Nat} (x : E) (h : i < n) : wr (rC f n) (i * 3) (enE x) = rC (So.upd f i x) n := encR_wr en3 f x n h
theorem cells_en (x : E) : (Val.agg (enE x)).cells? = some (enE x) := rfl
/-- What is left of a row: swaps of it. -/
def Sw (f : Row) (n a b : Nat) (R : Val → Row → Prop) (v : Val) (H : Heap) : Prop := ∃ g : Row, Sws a b f g ∧ R v g ∧ H = [.rw (rC g n)]
def II1 (f : Row) (n a b : Nat) (k : Nat) (ρ : Env) (H : Heap) : Prop :=
  ∃ (i : Nat) (g : Row), a ≤ i ∧ (i ≤ b ∨ b ≤ a) ∧ k = b - i ∧ Sws a b f g ∧ Srt ltE g a (min i b) ∧ AnewS 1 [.rw (rC g n)] [(0, (.sl 0 0 n 3)), (1, .i .i64 (a : Nat)), (2, .i .i64 (b : Nat)), (3, (.fn (.func 37) [] [])), (8, .i .i64 (i : Nat))] ρ H
/-- All but what is let in at j stand in order. -/
def Let (g : Row) (a i j : Nat) : Prop := ∀ p q, a ≤ p → p < q → q ≤ i → q ≠ j → ltE (g p) (g q)
def II2 (f : Row) (n a b i : Nat) (k : Nat) (ρ : Env) (H : Heap) : Prop :=
  ∃ (j : Nat) (g : Row), a ≤ j ∧ j ≤ i ∧ j = k ∧ Sws a b f g ∧ Let g a i j ∧ AnewS 1 [.rw (rC g n)] [(0, (.sl 0 0 n 3)), (1, .i .i64 (a : Nat)), (2, .i .i64 (b : Nat)), (3, (.fn (.func 37) [] [])), (8, .i .i64 (i : Nat)), (9, .i .i64 (j : Nat))] ρ H
theorem let_swp {g : Row} {a i j : Nat} (h : Let g a i j) (hj : a < j) (hji : j ≤ i) (hlt : ltE (g j) (g (j - 1))) : Let (swp g j (j - 1)) a i (j - 1) := by
  intro p q hp hpq hqi hq
  have vj : swp g j (j - 1) j = g (j - 1) := swp_l _ _ _
  have vj1 : swp g j (j - 1) (j - 1) = g j := swp_r _ _ _
  have vo : ∀ k, k ≠ j → k ≠ j - 1 → swp g j (j - 1) k = g k := fun k h1 h2 => swp_o h1 h2
  by_cases q1 : q = j
  · subst q1
    rw [vj]
    by_cases p1 : p = q - 1
    · subst p1; rw [vj1]; exact hlt
    · rw [vo p (by omega) p1]; exact h p (q - 1) hp (by omega) (by omega) (by omega)
  · rw [vo q q1 hq]
    by_cases p1 : p = j
    · subst p1; rw [vj]; exact h (p - 1) q (by omega) (by omega) hqi q1
    · by_cases p2 : p = j - 1
      · subst p2; rw [vj1]; exact h j q (by omega) (by omega) hqi q1
      · rw [vo p p1 p2]; exact h p q hp hpq hqi q1
theorem let_done {g : Row} {a i j n : Nat} (h : Let g a i j) (hj : a ≤ j) (hji : j ≤ i) (hi : i < n) (ht : Tot ltE g n) (hd : j = a ∨ ¬ ltE (g j) (g (j - 1))) : Srt ltE g a (i + 1) := by
  intro p q hp hpq hq
  by_cases e : q = j
  · subst e
    rcases hd with rfl | hd
    · omega
    · have h1 : ltE (g (q - 1)) (g q) := (ht q (q - 1) (by omega) (by omega) (by omega)).resolve_left hd
      by_cases e2 : p = q - 1
      · subst e2; exact h1
      · exact ltE_ord.trans (h p (q - 1) hp (by omega) (by omega) (by omega)) h1
  · exact h p q hp hpq (by omega) e
theorem ins_c (f : Row) (n a b : Nat) (hab : a ≤ b) (hb : b ≤ n) (hn : n ≤ 100000) (ht : Tot ltE f n) :
    SoundM Try.prog 1 54 [(.sl 0 0 n 3), .i .i64 (a : Nat), .i .i64 (b : Nat), (.fn (.func 37) [] [])] [.rw (rC f n)] (Sw f n a b fun v g => v = .tup [] ∧ Srt ltE g a b) := by
  refine sound_told (sound_func Try.func54 c54 rfl (by simp) ?_)
  simp only [e54]
  refine GG0 ?_
  refine ei_loop (II1 f n a b) (n := b - (a + 1)) ?_ ?_
  · refine ⟨a + 1, f, by omega, by omega, rfl, .refl, .small (by omega), ?_⟩
    (refine anew [0] ?_ (by decide) ?_ ?_ ?_ rfl ?_ ?_ <;> simp [-List.map_map, embAt, nm, rn_rw, rn_ro, rn_map, rn_iter, rn_dead, renL, Val.ren, wfAll, wn_rw, wn_ro, wn_map, wn_iter, wn_dead, wfL, Val.wf, Env.get, initEnv, rC_ren, rC_wf])
  · rintro k ρ H ⟨i, g, hi, hib, rfl, hs, hso, ha⟩
    refine ei_anewS ha ?_
    clear ha
    by_cases hlt : i < b
    · have hd : ((i : Nat) : Int) < ((b : Nat) : Int) := by omega
      rw [Nat.min_eq_left (by omega)] at hso
      (have g0 := decide_t hd; refine GG1 ?_; clear g0)
      refine ei_loop (II2 f n a b i) (n := i) ?_ ?_
      · refine ⟨i, g, hi, Nat.le_refl _, rfl, hs, fun p q hp hpq hq hne => hso p q hp hpq (by omega), ?_⟩
        (refine anew [0] ?_ (by decide) ?_ ?_ ?_ rfl ?_ ?_ <;> simp [-List.map_map, embAt, nm, rn_rw, rn_ro, rn_map, rn_iter, rn_dead, renL, Val.ren, wfAll, wn_rw, wn_ro, wn_map, wn_iter, wn_dead, wfL, Val.wf, Env.get, initEnv, rC_ren, rC_wf])
      · clear hs hso
        rintro k ρ H ⟨j, g, hj, hji, rfl, hs, hl, ha⟩
        refine ei_anewS ha ?_
        clear ha
        have htg := hs.tot ht hb
        by_cases hja : j = a
        · subst hja
          have hz : ¬ ((j : Nat) : Int) > ((j : Nat) : Int) := by omega
          have hdone := let_done hl (Nat.le_refl _) hji (by omega) htg (.inl rfl)
          (have g0 := decide_f hz; refine GG1 ?_; clear g0)
          refine ⟨b - (i + 1), by omega, i + 1, g, by omega, by omega, rfl, hs, by rw [Nat.min_eq_left (by omega)]; exact hdone, ?_⟩
          (refine anew [0] ?_ (by decide) ?_ ?_ ?_ rfl ?_ ?_ <;> simp [-List.map_map, embAt, nm, rn_rw, rn_ro, rn_map, rn_iter, rn_dead, renL, Val.ren, wfAll, wn_rw, wn_ro, wn_map, wn_iter, wn_dead, wfL, Val.wf, Env.get, initEnv, rC_ren, rC_wf])
        · have hz : ((j : Nat) : Int) > ((a : Nat) : Int) := by omega
          have e1 : (((j : Nat) : Int) - 1).toNat = j - 1 := by omega
          have hl3 := rC_len g n
          (have g0 := decide_t hz; have g1 := e1; have g2 := fun qf => rC_get (f := qf) (show j < n by omega); have g3 := fun qf => rC_get (f := qf) (show j - 1 < n by omega); refine GG4 ?_; clear g0 g1 g2 g3)
          (first | ((with_reducible first | apply RunP.call | apply Run.call | apply Run.call0); iterate 2 (· (simp only [go_sem, reduceIte, Nat.reduceEqDiff]; (try with_reducible exact rfl)))) | ((with_reducible first | apply Run.callY | apply RunP.callY); iterate 3 (· (simp only [go_sem, reduceIte, Nat.reduceEqDiff]; (try with_reducible exact rfl)))))
          refine (cmp_ok _ _ _).mono ?_
          rintro v H' ⟨rfl, rfl⟩
          (first | refine And.intro rfl ?_ | refine And.intro trivial ?_ | skip)
          by_cases hc : ltE (g j) (g (j - 1))
          · have hcv : cV (g j) (g (j - 1)) < 0 := (cV_lt _ _).2 hc
            (have g0 := decide_t hcv; have g1 := e1; have g2 := fun qf => rC_get (f := qf) (show j < n by omega); have g3 := fun qf => rC_get (f := qf) (show j - 1 < n by omega); have g4 := fun qf q0 => rC_wr (f := qf) q0 (show j < n by omega); have g5 := fun qf q0 => rC_wr (f := qf) q0 (show j - 1 < n by omega); have g6 := hl3; have g7 := rC_len; refine GG8 ?_; clear g0 g1 g2 g3 g4 g5 g6 g7)
            have hsw : rC (So.upd (So.upd g j (g (j - 1))) (j - 1) (g j)) n = rC (swp g j (j - 1)) n := rfl
            have e2 : ((j : Nat) : Int) - 1 = ((j - 1 : Nat) : Int) := by omega
            rw [hsw, e2]
            refine ⟨j - 1, by omega, j - 1, swp g j (j - 1), by omega, by omega, rfl, .swap j (j - 1) hs ⟨by omega, by omega⟩ ⟨by omega, by omega⟩, let_swp hl (by omega) hji hc, ?_⟩
            (refine anew [0] ?_ (by decide) ?_ ?_ ?_ rfl ?_ ?_ <;> simp [-List.map_map, embAt, nm, rn_rw, rn_ro, rn_map, rn_iter, rn_dead, renL, Val.ren, wfAll, wn_rw, wn_ro, wn_map, wn_iter, wn_dead, wfL, Val.wf, Env.get, initEnv, rC_ren, rC_wf])
          · have hcv : ¬ cV (g j) (g (j - 1)) < 0 := fun h => hc ((cV_lt _ _).1 h)
            have hdone := let_done hl hj hji (by omega) htg (.inr hc)
            (have g0 := decide_f hcv; refine GG1 ?_; clear g0)
            refine ⟨b - (i + 1), by omega, i + 1, g, by omega, by omega, rfl, hs, by rw [Nat.min_eq_left (by omega)]; exact hdone, ?_⟩
            (refine anew [0] ?_ (by decide) ?_ ?_ ?_ rfl ?_ ?_ <;> simp [-List.map_map, embAt, nm, rn_rw, rn_ro, rn_map, rn_iter, rn_dead, renL, Val.ren, wfAll, wn_rw, wn_ro, wn_map, wn_iter, wn_dead, wfL, Val.wf, Env.get, initEnv, rC_ren, rC_wf])
    · have hd : ¬ ((i : Nat) : Int) < ((b : Nat) : Int) := by omega
      rw [Nat.min_eq_right (by omega)] at hso
      (have g0 := decide_f hd; refine GG1 ?_; clear g0)
      refine told [0] [.rw (rC g n)] (.tup []) ?_ (by decide) ?_ ?_ ?_ rfl ?_ ?_ ?_; iterate 6 (· simp [-List.map_map, embAt, nm, rn_rw, rn_ro, rn_map, rn_iter, rn_dead, renL, Val.ren, wfAll, wn_rw, wn_ro, wn_map, wn_iter, wn_dead, wfL, Val.wf, Env.get, initEnv, rC_ren, rC_wf])
      exact ⟨g, hs, ⟨rfl, hso⟩, rfl⟩
end Go.Proofs.Ytjahkgfihdngkaa.IR
