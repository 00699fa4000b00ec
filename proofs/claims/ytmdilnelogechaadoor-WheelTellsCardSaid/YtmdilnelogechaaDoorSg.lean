/- This text of a proof shows: a row that is nearly in order. -/
import Derived.Test.YtmdilnelogechaaDoorGg
import Derived.Test.YtmdilnelogechaaDoorSf
set_option linter.unusedVariables false
set_option linter.unusedSimpArgs false
set_option linter.constructorNameAsVariable false
namespace Go.Proofs.YtmdilnelogechaaDoor.IR
open Go Go.Proofs.YtmdilnelogechaaDoor.Ev Go.Proofs.YtmdilnelogechaaDoor.Ev.Rb Go.Proofs.YtmdilnelogechaaDoor.Ev.So
set_option linter.unusedSimpArgs false
set_option linter.unusedVariables false
set_option maxHeartbeats 4000000
attribute [local go_sem] skipV nc0 nc1 nc2 nc3 bne_self_eq_false decide_true decide_false IOp.step Opd.ev Env.get initEnv Val.cells? Val.one List.all_cons List.all_nil Bool.and_true Bool.and_self Bool.true_and bin ints eqv Val.kindNo lenNo_s lenNo_nils lenNo_sl lenNo_nilm lenNo_m lenOf_s lenOf_nils lenOf_sl lenOf_nilm unary partsOf padTo List.foldl_cons List.foldl_nil wr_nil wr_step wr_zero List.set_cons_zero List.set_cons_succ List.map_cons List.map_nil z1 z2 Nat.succ_ne_zero List.length_cons List.length_nil List.cons_append List.nil_append List.append_nil List.getElem?_cons_zero List.getElem?_cons_succ List.getElem?_nil Option.map_some Option.map_none Nat.zero_add Nat.add_zero List.drop_zero List.drop_succ_cons List.take_succ_cons List.take_zero List.take_nil and_self and_true true_and Nat.le_refl Bool.not_true Bool.not_false Option.getD_some window Val.slen bnd resV resL RV.val Bool.false_eq_true BEq.rfl Bool.true_beq Bool.false_beq beq_true beq_false mk_one ite_true ite_false eqc ceqs ceq NOp.step isK eq_self
attribute [local go_sem] nat_toNat en_all en3
def PiO (f : Row) (n a b : Nat) (k : Nat) (ρ : Env) (H : Heap) : Prop :=
  ∃ (i c : Nat) (g : Row), a < i ∧ i ≤ b ∧ c ≤ 5 ∧ k = 5 - c ∧ Sws a b f g ∧ Srt ltE g a i ∧ AnewS 1 [.rw (rC g n)] [(0, (.sl 0 0 n 3)), (1, .i .i64 (a : Nat)), (2, .i .i64 (b : Nat)), (3, (.fn (.func 33) [] [])), (8, .b false), (9, .i .i64 (i : Nat)), (10, .i .i64 (c : Nat))] ρ H
def PiI (f : Row) (n a b c : Nat) (k : Nat) (ρ : Env) (H : Heap) : Prop :=
  ∃ (i : Nat) (g : Row), a < i ∧ i ≤ b ∧ k = b - i ∧ Sws a b f g ∧ Srt ltE g a i ∧ AnewS 1 [.rw (rC g n)] [(0, (.sl 0 0 n 3)), (1, .i .i64 (a : Nat)), (2, .i .i64 (b : Nat)), (3, (.fn (.func 33) [] [])), (8, .b false), (9, .i .i64 (i : Nat)), (10, .i .i64 (c : Nat))] ρ H
def PiM (f : Row) (n a b i c : Nat) (ρ : Env) (H : Heap) : Prop :=
  ∃ g : Row, Sws a b f g ∧ Srt ltE g a i ∧ AnewS 1 [.rw (rC g n)] [(0, (.sl 0 0 n 3)), (1, .i .i64 (a : Nat)), (2, .i .i64 (b : Nat)), (3, (.fn (.func 33) [] [])), (8, .b false), (9, .i .i64 (i : Nat)), (10, .i .i64 (c : Nat))] ρ H
def PiL (f : Row) (n a b i c : Nat) (k : Nat) (ρ : Env) (H : Heap) : Prop :=
  ∃ (j : Nat) (g : Row), a ≤ j ∧ j ≤ i - 1 ∧ j = k ∧ Sws a b f g ∧ Let g a (i - 1) j ∧ AnewS 1 [.rw (rC g n)] [(0, (.sl 0 0 n 3)), (1, .i .i64 (a : Nat)), (2, .i .i64 (b : Nat)), (3, (.fn (.func 33) [] [])), (8, .b false), (9, .i .i64 (i : Nat)), (10, .i .i64 (c : Nat)), (11, .i .i64 (j : Nat))] ρ H
def PiR (f : Row) (n a b i c : Nat) (k : Nat) (ρ : Env) (H : Heap) : Prop :=
  ∃ (j : Nat) (g : Row), i + 1 ≤ j ∧ j ≤ b ∧ k = b - j ∧ Sws a b f g ∧ Srt ltE g a i ∧ AnewS 1 [.rw (rC g n)] [(0, (.sl 0 0 n 3)), (1, .i .i64 (a : Nat)), (2, .i .i64 (b : Nat)), (3, (.fn (.func 33) [] [])), (8, .b false), (9, .i .i64 (i : Nat)), (10, .i .i64 (c : Nat)), (12, .i .i64 (j : Nat))] ρ H
theorem srt_inc {f : Row} {n a i : Nat} (h : Srt ltE f a i) (hai : a < i) (hin : i < n) (ht : Tot ltE f n) (hn : ¬ ltE (f i) (f (i - 1))) : Srt ltE f a (i + 1) := by
  have h1 : ltE (f (i - 1)) (f i) := (ht i (i - 1) hin (by omega) (by omega)).resolve_left hn
  intro p q p1 p2 p3
  by_cases e : q = i
  · subst e
    by_cases e2 : p = q - 1
    · subst e2; exact h1
    · exact ltE_ord.trans (h p (q - 1) p1 (by omega) (by omega)) h1
  · exact h p q p1 p2 (by omega)
theorem srt_far {g : Row} {a i p q : Nat} (h : Srt ltE g a i) (hp : i ≤ p) (hq : i ≤ q) : Srt ltE (swp g p q) a i := by
  intro x y h1 h2 h3
  rw [swp_o (by omega) (by omega), swp_o (by omega) (by omega)]
  exact h x y h1 h2 h3
/-- The one that was swapped in at the end of a row in order is let in there. -/
theorem let_new {g : Row} {a i : Nat} (h : Srt ltE g a i) : Let (swp g i (i - 1)) a (i - 1) (i - 1) := by
  intro p q hp hpq hq hne
  rw [swp_o (by omega) (by omega), swp_o (by omega) (by omega)]
  exact h p q hp hpq (by omega)
theorem pins_c (f : Row) (n a b : Nat) (hab : a < b) (hb : b ≤ n) (hn : n ≤ 100000) (ht : Tot ltE f n) (hlo : Lo ltE f a b) :
    SoundM Tryd.prog 1 67 [(.sl 0 0 n 3), .i .i64 (a : Nat), .i .i64 (b : Nat), (.fn (.func 33) [] [])] [.rw (rC f n)] (Sw f n a b fun v g => ∃ c : Bool, v = .b c ∧ (c = true → Srt ltE g a b)) := by
  refine sound_told (sound_func Tryd.func67 c67 rfl (by simp) ?_)
  simp only [e67, s67]
  have ei : ((a : Nat) : Int) + 1 = ((a + 1 : Nat) : Int) := by omega
  (have g0 := ei; refine GG1 ?_; clear g0)
  refine ei_loop (PiO f n a b) (n := 5) ?_ ?_
  · refine ⟨a + 1, 0, f, by omega, by omega, by omega, rfl, .refl, .small (by omega), ?_⟩
    (refine anew [0] ?_ (by decide) ?_ ?_ ?_ rfl ?_ ?_ <;> simp [-List.map_map, embAt, nm, rn_rw, rn_ro, rn_map, rn_iter, rn_dead, renL, Val.ren, wfAll, wn_rw, wn_ro, wn_map, wn_iter, wn_dead, wfL, Val.wf, Env.get, initEnv, rC_ren, rC_wf])
  · rintro k ρ H ⟨i, c, g, hi1, hi2, hc, rfl, hs, hso, ha⟩
    refine ei_anewS ha ?_
    clear ha
    by_cases hc5 : c = 5
    · subst hc5
      have hd : ¬ ((5 : Nat) : Int) < 5 := by omega
      (have g0 := decide_f hd; refine GG1 ?_; clear g0)
      refine told [0] [.rw (rC g n)] (.b false) ?_ (by decide) ?_ ?_ ?_ rfl ?_ ?_ ?_; iterate 6 (· simp [-List.map_map, embAt, nm, rn_rw, rn_ro, rn_map, rn_iter, rn_dead, renL, Val.ren, wfAll, wn_rw, wn_ro, wn_map, wn_iter, wn_dead, wfL, Val.wf, Env.get, initEnv, rC_ren, rC_wf])
      exact ⟨g, hs, ⟨false, rfl, fun h => nomatch h⟩, rfl⟩
    · have hd : ((c : Nat) : Int) < 5 := by omega
      have ec : ((c : Nat) : Int) + 1 = ((c + 1 : Nat) : Int) := by omega
      (have g0 := decide_t hd; refine GG1 ?_; clear g0)
      refine ei_loop (PiI f n a b c) (n := b - i) ?_ ?_
      · refine ⟨i, g, hi1, hi2, rfl, hs, hso, ?_⟩
        (refine anew [0] ?_ (by decide) ?_ ?_ ?_ rfl ?_ ?_ <;> simp [-List.map_map, embAt, nm, rn_rw, rn_ro, rn_map, rn_iter, rn_dead, renL, Val.ren, wfAll, wn_rw, wn_ro, wn_map, wn_iter, wn_dead, wfL, Val.wf, Env.get, initEnv, rC_ren, rC_wf])
      · clear hs hso hi1 hi2 i g
        rintro k ρ H ⟨i, g, hi1, hi2, rfl, hs, hso, ha⟩
        refine ei_anewS ha ?_
        clear ha
        have hl3 := rC_len g n
        have htg := hs.tot ht hb
        by_cases hib : i < b
        · have hd1 : ((i : Nat) : Int) < ((b : Nat) : Int) := by omega
          have e1 : ((i : Nat) : Int) - 1 = ((i - 1 : Nat) : Int) := by omega
          have hin : i < n := by omega
          have hin1 : i - 1 < n := by omega
          have e2 : ((i : Nat) : Int) + 1 = ((i + 1 : Nat) : Int) := by omega
          (have g0 := decide_t hd1; have g1 := e1; have g2 := fun qf => rC_get (f := qf) hin; have g3 := fun qf => rC_get (f := qf) hin1; refine GG4 ?_; clear g0 g1 g2 g3)
          (first | ((with_reducible first | apply RunP.call | apply Run.call | apply Run.call0); iterate 2 (· (simp only [go_sem, reduceIte, Nat.reduceEqDiff]; (try with_reducible exact rfl)))) | ((with_reducible first | apply Run.callY | apply RunP.callY); iterate 3 (· (simp only [go_sem, reduceIte, Nat.reduceEqDiff]; (try with_reducible exact rfl)))))
          refine (cmp_ok _ _ _).mono ?_
          rintro v H' ⟨rfl, rfl⟩
          (first | refine And.intro rfl ?_ | refine And.intro trivial ?_ | skip)
          by_cases hcm : ltE (g i) (g (i - 1))
          · have hcv : cV (g i) (g (i - 1)) < 0 := (cV_lt _ _).2 hcm
            have hd2 : (((i : Nat) : Int) == ((b : Nat) : Int)) = false := beq_false_of_ne (by omega)
            have e3 : ((b : Nat) : Int) - ((a : Nat) : Int) = ((b - a : Nat) : Int) := by omega
            by_cases h50 : b - a < 50
            · have hd3 : ((b - a : Nat) : Int) < 50 := by omega
              (have g0 := decide_t hcv; have g1 := hd2; have g2 := e3; have g3 := decide_t hd3; refine GG4 ?_; clear g0 g1 g2 g3)
              refine told [0] [.rw (rC g n)] (.b false) ?_ (by decide) ?_ ?_ ?_ rfl ?_ ?_ ?_; iterate 6 (· simp [-List.map_map, embAt, nm, rn_rw, rn_ro, rn_map, rn_iter, rn_dead, renL, Val.ren, wfAll, wn_rw, wn_ro, wn_map, wn_iter, wn_dead, wfL, Val.wf, Env.get, initEnv, rC_ren, rC_wf])
              exact ⟨g, hs, ⟨false, rfl, fun h => nomatch h⟩, rfl⟩
            · have hd3 : ¬ ((b - a : Nat) : Int) < 50 := by omega
              have e4 : ((i : Nat) : Int) - ((a : Nat) : Int) = ((i - a : Nat) : Int) := by omega
              (have g0 := decide_t hcv; have g1 := hd2; have g2 := e3; have g3 := decide_f hd3; have g4 := e1; have g5 := fun qf => rC_get (f := qf) hin; have g6 := fun qf => rC_get (f := qf) hin1; have g7 := fun qf q0 => rC_wr (f := qf) q0 hin; have g8 := fun qf q0 => rC_wr (f := qf) q0 hin1; have g9 := hl3; have g10 := rC_len; have g11 := e4; refine GG12 ?_; clear g0 g1 g2 g3 g4 g5 g6 g7 g8 g9 g10 g11)
              have hsw : rC (So.upd (So.upd g i (g (i - 1))) (i - 1) (g i)) n = rC (swp g i (i - 1)) n := rfl
              rw [hsw]
              have hs1 : Sws a b f (swp g i (i - 1)) := .swap i (i - 1) hs ⟨by omega, by omega⟩ ⟨by omega, by omega⟩
              have hlet := let_new hso
              generalize swp g i (i - 1) = g1 at hs1 hlet
              clear hcv hcm hs hso hl3 htg hsw
              refine ei_mid (M := PiM f n a b i c) ?_ ?_
              · by_cases hia : i - a ≥ 2
                · have hd4 : ((i - a : Nat) : Int) ≥ 2 := by omega
                  (have g0 := decide_t hd4; have g1 := e1; refine GG2 ?_; clear g0 g1)
                  refine ei_loop (PiL f n a b i c) (n := i - 1) ?_ ?_
                  · refine ⟨i - 1, g1, by omega, by omega, rfl, hs1, hlet, ?_⟩
                    (refine anew [0] ?_ (by decide) ?_ ?_ ?_ rfl ?_ ?_ <;> simp [-List.map_map, embAt, nm, rn_rw, rn_ro, rn_map, rn_iter, rn_dead, renL, Val.ren, wfAll, wn_rw, wn_ro, wn_map, wn_iter, wn_dead, wfL, Val.wf, Env.get, initEnv, rC_ren, rC_wf])
                  · clear hs1 hlet
                    rintro k ρ H ⟨j, g, hj1, hj2, rfl, hs, hl, ha⟩
                    refine ei_anewS ha ?_
                    clear ha
                    have htg := hs.tot ht hb
                    have hl3 := rC_len g n
                    have ei1 : i - 1 + 1 = i := by omega
                    by_cases hj0 : j = 0
                    · subst hj0
                      have hdone := let_done hl hj1 hj2 (by omega) htg (.inl (by omega))
                      rw [ei1] at hdone
                      have hd5 : ¬ (0 : Int) ≥ 1 := by omega
                      (have g0 := decide_f hd5; refine GG1 ?_; clear g0)
                      refine ⟨g, hs, hdone, ?_⟩
                      (refine anew [0] ?_ (by decide) ?_ ?_ ?_ rfl ?_ ?_ <;> simp [-List.map_map, embAt, nm, rn_rw, rn_ro, rn_map, rn_iter, rn_dead, renL, Val.ren, wfAll, wn_rw, wn_ro, wn_map, wn_iter, wn_dead, wfL, Val.wf, Env.get, initEnv, rC_ren, rC_wf])
                    · have hd5 : ((j : Nat) : Int) ≥ 1 := by omega
                      have e5 : ((j : Nat) : Int) - 1 = ((j - 1 : Nat) : Int) := by omega
                      have hjn : j < n := by omega
                      have hjn1 : j - 1 < n := by omega
                      (have g0 := decide_t hd5; have g1 := e5; have g2 := fun qf => rC_get (f := qf) hjn; have g3 := fun qf => rC_get (f := qf) hjn1; refine GG4 ?_; clear g0 g1 g2 g3)
                      (first | ((with_reducible first | apply RunP.call | apply Run.call | apply Run.call0); iterate 2 (· (simp only [go_sem, reduceIte, Nat.reduceEqDiff]; (try with_reducible exact rfl)))) | ((with_reducible first | apply Run.callY | apply RunP.callY); iterate 3 (· (simp only [go_sem, reduceIte, Nat.reduceEqDiff]; (try with_reducible exact rfl)))))
                      refine (cmp_ok _ _ _).mono ?_
                      rintro v H' ⟨rfl, rfl⟩
                      (first | refine And.intro rfl ?_ | refine And.intro trivial ?_ | skip)
                      by_cases hcm : ltE (g j) (g (j - 1))
                      · have hcv : cV (g j) (g (j - 1)) < 0 := (cV_lt _ _).2 hcm
                        have haj : a < j := by
                          rcases Nat.lt_or_ge a j with h | h
                          · exact h
                          · have e : j = a := by omega
                            subst e
                            exact absurd hcm (ltE_ord.asymm ((hlo.sws hs (Nat.le_refl _) (Nat.le_refl _)) (by omega) j (Nat.le_refl _) (by omega)))
                        (have g0 := decide_t hcv; have g1 := e5; have g2 := fun qf => rC_get (f := qf) hjn; have g3 := fun qf => rC_get (f := qf) hjn1; have g4 := fun qf q0 => rC_wr (f := qf) q0 hjn; have g5 := fun qf q0 => rC_wr (f := qf) q0 hjn1; have g6 := hl3; have g7 := rC_len; refine GG8 ?_; clear g0 g1 g2 g3 g4 g5 g6 g7)
                        have hsw : rC (So.upd (So.upd g j (g (j - 1))) (j - 1) (g j)) n = rC (swp g j (j - 1)) n := rfl
                        rw [hsw]
                        refine ⟨j - 1, by omega, j - 1, swp g j (j - 1), by omega, by omega, rfl, .swap j (j - 1) hs ⟨by omega, by omega⟩ ⟨by omega, by omega⟩, let_swp hl haj hj2 hcm, ?_⟩
                        (refine anew [0] ?_ (by decide) ?_ ?_ ?_ rfl ?_ ?_ <;> simp [-List.map_map, embAt, nm, rn_rw, rn_ro, rn_map, rn_iter, rn_dead, renL, Val.ren, wfAll, wn_rw, wn_ro, wn_map, wn_iter, wn_dead, wfL, Val.wf, Env.get, initEnv, rC_ren, rC_wf])
                      · have hcv : ¬ cV (g j) (g (j - 1)) < 0 := fun h => hcm ((cV_lt _ _).1 h)
                        have hdone := let_done hl hj1 hj2 (by omega) htg (.inr hcm)
                        rw [ei1] at hdone
                        (have g0 := decide_f hcv; refine GG1 ?_; clear g0)
                        refine ⟨g, hs, hdone, ?_⟩
                        (refine anew [0] ?_ (by decide) ?_ ?_ ?_ rfl ?_ ?_ <;> simp [-List.map_map, embAt, nm, rn_rw, rn_ro, rn_map, rn_iter, rn_dead, renL, Val.ren, wfAll, wn_rw, wn_ro, wn_map, wn_iter, wn_dead, wfL, Val.wf, Env.get, initEnv, rC_ren, rC_wf])
                · have hd4 : ¬ ((i - a : Nat) : Int) ≥ 2 := by omega
                  (have g0 := decide_f hd4; refine GG1 ?_; clear g0)
                  refine ⟨g1, hs1, .small (by omega), ?_⟩
                  (refine anew [0] ?_ (by decide) ?_ ?_ ?_ rfl ?_ ?_ <;> simp [-List.map_map, embAt, nm, rn_rw, rn_ro, rn_map, rn_iter, rn_dead, renL, Val.ren, wfAll, wn_rw, wn_ro, wn_map, wn_iter, wn_dead, wfL, Val.wf, Env.get, initEnv, rC_ren, rC_wf])
              · clear hs1 hlet g1 g
                rintro ρ H ⟨g, hs, hso, ha⟩
                refine ei_anewS ha ?_
                clear ha
                have e6 : ((b : Nat) : Int) - ((i : Nat) : Int) = ((b - i : Nat) : Int) := by omega
                by_cases hbi : b - i ≥ 2
                · have hd4 : ((b - i : Nat) : Int) ≥ 2 := by omega
                  (have g0 := e6; have g1 := decide_t hd4; have g2 := e2; refine GG3 ?_; clear g0 g1 g2)
                  refine ei_loop (PiR f n a b i c) (n := b - (i + 1)) ?_ ?_
                  · refine ⟨i + 1, g, by omega, by omega, rfl, hs, hso, ?_⟩
                    (refine anew [0] ?_ (by decide) ?_ ?_ ?_ rfl ?_ ?_ <;> simp [-List.map_map, embAt, nm, rn_rw, rn_ro, rn_map, rn_iter, rn_dead, renL, Val.ren, wfAll, wn_rw, wn_ro, wn_map, wn_iter, wn_dead, wfL, Val.wf, Env.get, initEnv, rC_ren, rC_wf])
                  · clear hs hso
                    rintro k ρ H ⟨j, g, hj1, hj2, rfl, hs, hso, ha⟩
                    refine ei_anewS ha ?_
                    clear ha
                    have hl3 := rC_len g n
                    by_cases hjb : j < b
                    · have hd5 : ((j : Nat) : Int) < ((b : Nat) : Int) := by omega
                      have e5 : ((j : Nat) : Int) - 1 = ((j - 1 : Nat) : Int) := by omega
                      have e7 : ((j : Nat) : Int) + 1 = ((j + 1 : Nat) : Int) := by omega
                      have hjn : j < n := by omega
                      have hjn1 : j - 1 < n := by omega
                      (have g0 := decide_t hd5; have g1 := e5; have g2 := fun qf => rC_get (f := qf) hjn; have g3 := fun qf => rC_get (f := qf) hjn1; refine GG4 ?_; clear g0 g1 g2 g3)
                      (first | ((with_reducible first | apply RunP.call | apply Run.call | apply Run.call0); iterate 2 (· (simp only [go_sem, reduceIte, Nat.reduceEqDiff]; (try with_reducible exact rfl)))) | ((with_reducible first | apply Run.callY | apply RunP.callY); iterate 3 (· (simp only [go_sem, reduceIte, Nat.reduceEqDiff]; (try with_reducible exact rfl)))))
                      refine (cmp_ok _ _ _).mono ?_
                      rintro v H' ⟨rfl, rfl⟩
                      (first | refine And.intro rfl ?_ | refine And.intro trivial ?_ | skip)
                      by_cases hcm : ltE (g j) (g (j - 1))
                      · have hcv : cV (g j) (g (j - 1)) < 0 := (cV_lt _ _).2 hcm
                        (have g0 := decide_t hcv; have g1 := e5; have g2 := fun qf => rC_get (f := qf) hjn; have g3 := fun qf => rC_get (f := qf) hjn1; have g4 := fun qf q0 => rC_wr (f := qf) q0 hjn; have g5 := fun qf q0 => rC_wr (f := qf) q0 hjn1; have g6 := hl3; have g7 := rC_len; have g8 := e7; refine GG9 ?_; clear g0 g1 g2 g3 g4 g5 g6 g7 g8)
                        have hsw : rC (So.upd (So.upd g j (g (j - 1))) (j - 1) (g j)) n = rC (swp g j (j - 1)) n := rfl
                        rw [hsw]
                        refine ⟨b - (j + 1), by omega, j + 1, swp g j (j - 1), by omega, by omega, rfl, .swap j (j - 1) hs ⟨by omega, by omega⟩ ⟨by omega, by omega⟩, srt_far hso (by omega) (by omega), ?_⟩
                        (refine anew [0] ?_ (by decide) ?_ ?_ ?_ rfl ?_ ?_ <;> simp [-List.map_map, embAt, nm, rn_rw, rn_ro, rn_map, rn_iter, rn_dead, renL, Val.ren, wfAll, wn_rw, wn_ro, wn_map, wn_iter, wn_dead, wfL, Val.wf, Env.get, initEnv, rC_ren, rC_wf])
                      · have hcv : ¬ cV (g j) (g (j - 1)) < 0 := fun h => hcm ((cV_lt _ _).1 h)
                        (have g0 := decide_f hcv; have g1 := ec; refine GG2 ?_; clear g0 g1)
                        refine ⟨5 - (c + 1), by omega, i, c + 1, g, hi1, hi2, by omega, rfl, hs, hso, ?_⟩
                        (refine anew [0] ?_ (by decide) ?_ ?_ ?_ rfl ?_ ?_ <;> simp [-List.map_map, embAt, nm, rn_rw, rn_ro, rn_map, rn_iter, rn_dead, renL, Val.ren, wfAll, wn_rw, wn_ro, wn_map, wn_iter, wn_dead, wfL, Val.wf, Env.get, initEnv, rC_ren, rC_wf])
                    · have hd5 : ¬ ((j : Nat) : Int) < ((b : Nat) : Int) := by omega
                      (have g0 := decide_f hd5; have g1 := ec; refine GG2 ?_; clear g0 g1)
                      refine ⟨5 - (c + 1), by omega, i, c + 1, g, hi1, hi2, by omega, rfl, hs, hso, ?_⟩
                      (refine anew [0] ?_ (by decide) ?_ ?_ ?_ rfl ?_ ?_ <;> simp [-List.map_map, embAt, nm, rn_rw, rn_ro, rn_map, rn_iter, rn_dead, renL, Val.ren, wfAll, wn_rw, wn_ro, wn_map, wn_iter, wn_dead, wfL, Val.wf, Env.get, initEnv, rC_ren, rC_wf])
                · have hd4 : ¬ ((b - i : Nat) : Int) ≥ 2 := by omega
                  (have g0 := e6; have g1 := decide_f hd4; have g2 := ec; refine GG3 ?_; clear g0 g1 g2)
                  refine ⟨5 - (c + 1), by omega, i, c + 1, g, hi1, hi2, by omega, rfl, hs, hso, ?_⟩
                  (refine anew [0] ?_ (by decide) ?_ ?_ ?_ rfl ?_ ?_ <;> simp [-List.map_map, embAt, nm, rn_rw, rn_ro, rn_map, rn_iter, rn_dead, renL, Val.ren, wfAll, wn_rw, wn_ro, wn_map, wn_iter, wn_dead, wfL, Val.wf, Env.get, initEnv, rC_ren, rC_wf])
          · have hcv : ¬ cV (g i) (g (i - 1)) < 0 := fun h => hcm ((cV_lt _ _).1 h)
            (have g0 := decide_f hcv; have g1 := e2; refine GG2 ?_; clear g0 g1)
            refine ⟨b - (i + 1), by omega, i + 1, g, by omega, by omega, rfl, hs, srt_inc hso hi1 hin htg hcm, ?_⟩
            (refine anew [0] ?_ (by decide) ?_ ?_ ?_ rfl ?_ ?_ <;> simp [-List.map_map, embAt, nm, rn_rw, rn_ro, rn_map, rn_iter, rn_dead, renL, Val.ren, wfAll, wn_rw, wn_ro, wn_map, wn_iter, wn_dead, wfL, Val.wf, Env.get, initEnv, rC_ren, rC_wf])
        · have hd1 : ¬ ((i : Nat) : Int) < ((b : Nat) : Int) := by omega
          obtain rfl : i = b := by omega
          have hd2 : (((i : Nat) : Int) == ((i : Nat) : Int)) = true := beq_self_eq_true _
          (have g0 := decide_f hd1; have g1 := hd2; refine GG2 ?_; clear g0 g1)
          refine told [0] [.rw (rC g n)] (.b true) ?_ (by decide) ?_ ?_ ?_ rfl ?_ ?_ ?_; iterate 6 (· simp [-List.map_map, embAt, nm, rn_rw, rn_ro, rn_map, rn_iter, rn_dead, renL, Val.ren, wfAll, wn_rw, wn_ro, wn_map, wn_iter, wn_dead, wfL, Val.wf, Env.get, initEnv, rC_ren, rC_wf])
          exact ⟨g, hs, ⟨true, rfl, fun _ => hso⟩, rfl⟩
end Go.Proofs.YtmdilnelogechaaDoor.IR
