/- This text of a proof shows: a row is parted by a pivot. -/
import Derived.Test.YtmdilnelogechaaDoorGg
import Derived.Test.YtmdilnelogechaaDoorSe
import Derived.Test.YtmdilnelogechaaDoorKl
set_option linter.unusedVariables false
set_option linter.unusedSimpArgs false
set_option linter.constructorNameAsVariable false
namespace Go.Proofs.YtmdilnelogechaaDoor.IR
open Go Go.Proofs.YtmdilnelogechaaDoor.Ev Go.Proofs.YtmdilnelogechaaDoor.Ev.Rb Go.Proofs.YtmdilnelogechaaDoor.Ev.So
set_option linter.unusedSimpArgs false
set_option linter.unusedVariables false
set_option maxHeartbeats 4000000
attribute [local go_sem] skipV nc0 nc1 nc2 nc3 bne_self_eq_false decide_true decide_false IOp.step Opd.ev Env.get initEnv Val.cells? Val.one List.all_cons List.all_nil Bool.and_true Bool.and_self Bool.true_and bin ints eqv Val.kindNo lenNo_s lenNo_nils lenNo_sl lenNo_nilm lenNo_m lenOf_s lenOf_nils lenOf_sl lenOf_nilm unary partsOf padTo List.foldl_cons List.foldl_nil wr_nil wr_step wr_zero List.set_cons_zero List.set_cons_succ List.map_cons List.map_nil z1 z2 Nat.succ_ne_zero List.length_cons List.length_nil List.cons_append List.nil_append List.append_nil List.getElem?_cons_zero List.getElem?_cons_succ List.getElem?_nil Option.map_some Option.map_none Nat.zero_add Nat.add_zero List.drop_zero List.drop_succ_cons List.take_succ_cons List.take_zero List.take_nil and_self and_true true_and Nat.le_refl Bool.not_true Bool.not_false Option.getD_some window Val.slen bnd resV resL RV.val Bool.false_eq_true BEq.rfl Bool.true_beq Bool.false_beq beq_true beq_false mk_one ite_true ite_false eqc ceqs ceq NOp.step isK eq_self
attribute [local go_sem] nat_toNat en_all en3
def PL1 (g : Row) (n a b j i0 : Nat) (k : Nat) (ρ : Env) (H : Heap) : Prop :=
  ∃ i : Nat, (a < i0 ∧ i0 ≤ i) ∧ i ≤ j + 1 ∧ k = j + 1 - i ∧ Pt ltE g a b i j ∧ AnewS 1 [.rw (rC g n)] [(0, (.sl 0 0 n 3)), (1, .i .i64 (a : Nat)), (4, (.fn (.func 33) [] [])), (10, .i .i64 0), (11, .b false), (12, .i .i64 (i : Nat)), (13, .i .i64 (j : Nat))] ρ H
def PM1 (g : Row) (n a b j i0 : Nat) (ρ : Env) (H : Heap) : Prop :=
  ∃ i : Nat, (a < i0 ∧ i0 ≤ i) ∧ i ≤ j + 1 ∧ Pt ltE g a b i j ∧ (i ≤ j → ltE (g a) (g i)) ∧ AnewS 1 [.rw (rC g n)] [(0, (.sl 0 0 n 3)), (1, .i .i64 (a : Nat)), (4, (.fn (.func 33) [] [])), (10, .i .i64 0), (11, .b false), (12, .i .i64 (i : Nat)), (13, .i .i64 (j : Nat))] ρ H
def PL2 (g : Row) (n a b i j0 : Nat) (k : Nat) (ρ : Env) (H : Heap) : Prop :=
  ∃ j : Nat, a ≤ j ∧ (j < b ∧ j ≤ j0) ∧ i ≤ j + 1 ∧ k = 0 + j ∧ Pt ltE g a b i j ∧ (i ≤ j → ltE (g a) (g i)) ∧ AnewS 1 [.rw (rC g n)] [(0, (.sl 0 0 n 3)), (1, .i .i64 (a : Nat)), (4, (.fn (.func 33) [] [])), (10, .i .i64 0), (11, .b false), (12, .i .i64 (i : Nat)), (13, .i .i64 (j : Nat))] ρ H
def PM2 (g : Row) (n a b i j0 : Nat) (ρ : Env) (H : Heap) : Prop :=
  ∃ j : Nat, a ≤ j ∧ (j < b ∧ j ≤ j0) ∧ i ≤ j + 1 ∧ Pt ltE g a b i j ∧ (i ≤ j → ltE (g a) (g i) ∧ ltE (g j) (g a)) ∧ AnewS 1 [.rw (rC g n)] [(0, (.sl 0 0 n 3)), (1, .i .i64 (a : Nat)), (4, (.fn (.func 33) [] [])), (10, .i .i64 0), (11, .b false), (12, .i .i64 (i : Nat)), (13, .i .i64 (j : Nat))] ρ H
def PO (f : Row) (n a b : Nat) (k : Nat) (ρ : Env) (H : Heap) : Prop :=
  ∃ (i j : Nat) (g : Row), a < i ∧ i ≤ j + 1 ∧ a ≤ j ∧ j < b ∧ k = j + 1 - i ∧ Sws a b f g ∧ Pt ltE g a b i j ∧ AnewS 1 [.rw (rC g n)] [(0, (.sl 0 0 n 3)), (1, .i .i64 (a : Nat)), (4, (.fn (.func 33) [] [])), (10, .i .i64 0), (11, .b false), (12, .i .i64 (i : Nat)), (13, .i .i64 (j : Nat))] ρ H
def PF (f : Row) (n a b : Nat) (v : Val) (g : Row) : Prop := ∃ (m : Nat) (c : Bool), v = .tup [.i .i64 (m : Nat), .b c] ∧ a ≤ m ∧ m < b ∧ PtF ltE g a b m
theorem part_c (f : Row) (n a b p : Nat) (hap : a ≤ p) (hpb : p < b) (hb : b ≤ n) (hn : n ≤ 100000) (ht : Tot ltE f n) :
    SoundM Tryd.prog 1 69 [(.sl 0 0 n 3), .i .i64 (a : Nat), .i .i64 (b : Nat), .i .i64 (p : Nat), (.fn (.func 33) [] [])] [.rw (rC f n)] (Sw f n a b (PF f n a b)) := by
  refine sound_told (sound_func Tryd.func69 c69 rfl (by simp) ?_)
  have han : a < n := by omega
  have hpn : p < n := by omega
  simp only [e69, s69]
  have ej : ((b : Nat) : Int) - 1 = ((b - 1 : Nat) : Int) := by omega
  have ei : ((a : Nat) : Int) + 1 = ((a + 1 : Nat) : Int) := by omega
  (have g0 := ei; have g1 := ej; have g2 := fun qf => rC_get (f := qf) han; have g3 := fun qf => rC_get (f := qf) hpn; have g4 := fun qf q0 => rC_wr (f := qf) q0 han; have g5 := fun qf q0 => rC_wr (f := qf) q0 hpn; have g6 := rC_len; refine GG7 ?_; clear g0 g1 g2 g3 g4 g5 g6)
  have hsw : rC (So.upd (So.upd f a (f p)) p (f a)) n = rC (swp f a p) n := rfl
  rw [hsw]
  have hs : Sws a b f (swp f a p) := .swap _ _ .refl ⟨by omega, by omega⟩ ⟨by omega, by omega⟩
  have hp : Pt ltE (swp f a p) a b (a + 1) (b - 1) := Pt.start (by omega)
  generalize swp f a p = g at hs hp ⊢
  have htg := hs.tot ht hb
  have hl3 := rC_len g n
  have hi1 : a < a + 1 := by omega
  have hi2 : a + 1 ≤ b - 1 + 1 := by omega
  have hj1 : a ≤ b - 1 := by omega
  have hj2 : b - 1 < b := by omega
  generalize a + 1 = i at hp hi1 hi2 ⊢
  generalize b - 1 = j at hp hi2 hj1 hj2 ⊢
  refine ei_midB (M := PM1 g n a b j i) ?_ ?_
  · refine ei_loop (PL1 g n a b j i) (n := j + 1 - i) ?_ ?_
    · refine ⟨i, by omega, hi2, rfl, hp, ?_⟩
      (refine anew [0] ?_ (by decide) ?_ ?_ ?_ rfl ?_ ?_ <;> simp [-List.map_map, embAt, nm, rn_rw, rn_ro, rn_map, rn_iter, rn_dead, renL, Val.ren, wfAll, wn_rw, wn_ro, wn_map, wn_iter, wn_dead, wfL, Val.wf, Env.get, initEnv, rC_ren, rC_wf])
    · clear hp hi1 hi2
      rintro k ρ H ⟨i, hi1, hi2, rfl, hp, ha⟩
      refine ei_anewS ha ?_
      clear ha
      by_cases hij : i ≤ j
      · have hd : ((i : Nat) : Int) ≤ ((j : Nat) : Int) := by omega
        have hin : i < n := by omega
        (have g0 := decide_t hd; have g1 := fun qf => rC_get (f := qf) hin; have g2 := fun qf => rC_get (f := qf) han; refine GG3 ?_; clear g0 g1 g2)
        (first | ((with_reducible first | apply RunP.call | apply Run.call | apply Run.call0); iterate 2 (· (simp only [go_sem, reduceIte, Nat.reduceEqDiff]; (try with_reducible exact rfl)))) | ((with_reducible first | apply Run.callY | apply RunP.callY); iterate 3 (· (simp only [go_sem, reduceIte, Nat.reduceEqDiff]; (try with_reducible exact rfl)))))
        refine (cmp_ok _ _ _).mono ?_
        rintro v H' ⟨rfl, rfl⟩
        (first | refine And.intro rfl ?_ | refine And.intro trivial ?_ | skip)
        by_cases hc : ltE (g i) (g a)
        · have hcv : cV (g i) (g a) < 0 := (cV_lt _ _).2 hc
          have e : ((i : Nat) : Int) + 1 = ((i + 1 : Nat) : Int) := by omega
          (have g0 := decide_t hcv; have g1 := e; refine GG2 ?_; clear g0 g1)
          refine ⟨j + 1 - (i + 1), by omega, i + 1, by omega, by omega, rfl, hp.inc hc, ?_⟩
          (refine anew [0] ?_ (by decide) ?_ ?_ ?_ rfl ?_ ?_ <;> simp [-List.map_map, embAt, nm, rn_rw, rn_ro, rn_map, rn_iter, rn_dead, renL, Val.ren, wfAll, wn_rw, wn_ro, wn_map, wn_iter, wn_dead, wfL, Val.wf, Env.get, initEnv, rC_ren, rC_wf])
        · have hcv : ¬ cV (g i) (g a) < 0 := fun h => hc ((cV_lt _ _).1 h)
          (have g0 := decide_f hcv; refine GG1 ?_; clear g0)
          refine ⟨i, hi1, hi2, hp, fun _ => (htg _ _ han hin (by omega)).resolve_right hc, ?_⟩
          (refine anew [0] ?_ (by decide) ?_ ?_ ?_ rfl ?_ ?_ <;> simp [-List.map_map, embAt, nm, rn_rw, rn_ro, rn_map, rn_iter, rn_dead, renL, Val.ren, wfAll, wn_rw, wn_ro, wn_map, wn_iter, wn_dead, wfL, Val.wf, Env.get, initEnv, rC_ren, rC_wf])
      · have hd : ¬ ((i : Nat) : Int) ≤ ((j : Nat) : Int) := by omega
        (have g0 := decide_f hd; refine GG1 ?_; clear g0)
        refine ⟨i, hi1, hi2, hp, fun h => absurd h hij, ?_⟩
        (refine anew [0] ?_ (by decide) ?_ ?_ ?_ rfl ?_ ?_ <;> simp [-List.map_map, embAt, nm, rn_rw, rn_ro, rn_map, rn_iter, rn_dead, renL, Val.ren, wfAll, wn_rw, wn_ro, wn_map, wn_iter, wn_dead, wfL, Val.wf, Env.get, initEnv, rC_ren, rC_wf])
  · clear hp hi1 hi2
    rintro ρ H ⟨i, hi1, hi2, hp, hgi, ha⟩
    refine ei_anewS ha ?_
    clear ha
    refine GG0 ?_
    refine ei_midB (M := PM2 g n a b i j) ?_ ?_
    · refine ei_loop (PL2 g n a b i j) (n := 0 + j) ?_ ?_
      · refine ⟨j, hj1, by omega, hi2, rfl, hp, hgi, ?_⟩
        (refine anew [0] ?_ (by decide) ?_ ?_ ?_ rfl ?_ ?_ <;> simp [-List.map_map, embAt, nm, rn_rw, rn_ro, rn_map, rn_iter, rn_dead, renL, Val.ren, wfAll, wn_rw, wn_ro, wn_map, wn_iter, wn_dead, wfL, Val.wf, Env.get, initEnv, rC_ren, rC_wf])
      · clear hp hi2 hj1 hj2 hgi
        rintro k ρ H ⟨j, hj1, hj2, hi2, rfl, hp, hgi, ha⟩
        refine ei_anewS ha ?_
        clear ha
        by_cases hij : i ≤ j
        · have hd : ((i : Nat) : Int) ≤ ((j : Nat) : Int) := by omega
          have hin : i < n := by omega
          have hjn : j < n := by omega
          (have g0 := decide_t hd; have g1 := fun qf => rC_get (f := qf) hjn; have g2 := fun qf => rC_get (f := qf) han; refine GG3 ?_; clear g0 g1 g2)
          (first | ((with_reducible first | apply RunP.call | apply Run.call | apply Run.call0); iterate 2 (· (simp only [go_sem, reduceIte, Nat.reduceEqDiff]; (try with_reducible exact rfl)))) | ((with_reducible first | apply Run.callY | apply RunP.callY); iterate 3 (· (simp only [go_sem, reduceIte, Nat.reduceEqDiff]; (try with_reducible exact rfl)))))
          refine (cmp_ok _ _ _).mono ?_
          rintro v H' ⟨rfl, rfl⟩
          (first | refine And.intro rfl ?_ | refine And.intro trivial ?_ | skip)
          by_cases hc : ltE (g j) (g a)
          · have hcv : cV (g j) (g a) < 0 := (cV_lt _ _).2 hc
            (have g0 := decide_t hcv; refine GG1 ?_; clear g0)
            refine ⟨j, hj1, hj2, hi2, hp, fun _ => ⟨hgi hij, hc⟩, ?_⟩
            (refine anew [0] ?_ (by decide) ?_ ?_ ?_ rfl ?_ ?_ <;> simp [-List.map_map, embAt, nm, rn_rw, rn_ro, rn_map, rn_iter, rn_dead, renL, Val.ren, wfAll, wn_rw, wn_ro, wn_map, wn_iter, wn_dead, wfL, Val.wf, Env.get, initEnv, rC_ren, rC_wf])
          · have hcv : ¬ cV (g j) (g a) < 0 := fun h => hc ((cV_lt _ _).1 h)
            obtain ⟨j, rfl⟩ : ∃ j', j = j' + 1 := ⟨j - 1, by omega⟩
            have e : ((j + 1 : Nat) : Int) - 1 = ((j : Nat) : Int) := by omega
            (have g0 := decide_f hcv; have g1 := e; refine GG2 ?_; clear g0 g1)
            refine ⟨0 + j, by omega, j, by omega, by omega, by omega, rfl, hp.dec ((htg _ _ han hjn (by omega)).resolve_right hc), fun _ => hgi hij, ?_⟩
            (refine anew [0] ?_ (by decide) ?_ ?_ ?_ rfl ?_ ?_ <;> simp [-List.map_map, embAt, nm, rn_rw, rn_ro, rn_map, rn_iter, rn_dead, renL, Val.ren, wfAll, wn_rw, wn_ro, wn_map, wn_iter, wn_dead, wfL, Val.wf, Env.get, initEnv, rC_ren, rC_wf])
        · have hd : ¬ ((i : Nat) : Int) ≤ ((j : Nat) : Int) := by omega
          (have g0 := decide_f hd; refine GG1 ?_; clear g0)
          refine ⟨j, hj1, hj2, hi2, hp, fun h => absurd h hij, ?_⟩
          (refine anew [0] ?_ (by decide) ?_ ?_ ?_ rfl ?_ ?_ <;> simp [-List.map_map, embAt, nm, rn_rw, rn_ro, rn_map, rn_iter, rn_dead, renL, Val.ren, wfAll, wn_rw, wn_ro, wn_map, wn_iter, wn_dead, wfL, Val.wf, Env.get, initEnv, rC_ren, rC_wf])
    · clear hp hi2 hj1 hj2 hgi
      rintro ρ H ⟨j, hj1, hj2, hi2, hp, hgj, ha⟩
      refine ei_anewS ha ?_
      clear ha
      by_cases hij : i ≤ j
      · obtain ⟨h1, h2⟩ := hgj hij
        have hne : i ≠ j := fun e => ltE_ord.asymm h1 (by rw [e]; exact h2)
        have hin : i < n := by omega
        obtain ⟨j, rfl⟩ : ∃ j', j = j' + 1 := ⟨j - 1, by omega⟩
        have hjn : j + 1 < n := by omega
        have hd : ¬ ((i : Nat) : Int) > ((j + 1 : Nat) : Int) := by omega
        have e : ((j + 1 : Nat) : Int) - 1 = ((j : Nat) : Int) := by omega
        have e2 : ((i : Nat) : Int) + 1 = ((i + 1 : Nat) : Int) := by omega
        (have g0 := decide_f hd; have g1 := e; have g2 := e2; have g3 := fun qf => rC_get (f := qf) hin; have g4 := fun qf => rC_get (f := qf) hjn; have g5 := fun qf q0 => rC_wr (f := qf) q0 hin; have g6 := fun qf q0 => rC_wr (f := qf) q0 hjn; have g7 := rC_len; refine GG8 ?_; clear g0 g1 g2 g3 g4 g5 g6 g7)
        have hsw : rC (So.upd (So.upd g i (g (j + 1))) (j + 1) (g i)) n = rC (swp g i (j + 1)) n := rfl
        rw [hsw]
        have hs' : Sws a b f (swp g i (j + 1)) := .swap _ _ hs ⟨by omega, by omega⟩ ⟨by omega, by omega⟩
        have hp' := hp.swap (by omega) (by omega) h1 h2
        refine ei_loop (PO f n a b) (n := j + 1 - (i + 1)) ?_ ?_
        · refine ⟨i + 1, j, swp g i (j + 1), by omega, by omega, by omega, by omega, rfl, hs', hp', ?_⟩
          (refine anew [0] ?_ (by decide) ?_ ?_ ?_ rfl ?_ ?_ <;> simp [-List.map_map, embAt, nm, rn_rw, rn_ro, rn_map, rn_iter, rn_dead, renL, Val.ren, wfAll, wn_rw, wn_ro, wn_map, wn_iter, wn_dead, wfL, Val.wf, Env.get, initEnv, rC_ren, rC_wf])
        · clear hs hp htg hl3 hi1 hi2 hj1 hj2 hs' hp' h1 h2 hne hin hjn hd e e2 hij hgj hsw
          rintro k ρ H ⟨i, j, g, hi1, hi2, hj1, hj2, rfl, hs, hp, ha⟩
          refine ei_anewS ha ?_
          clear ha
          have htg := hs.tot ht hb
          have hl3 := rC_len g n
          refine GG0 ?_
          refine ei_midB (M := PM1 g n a b j i) ?_ ?_
          · refine ei_loop (PL1 g n a b j i) (n := j + 1 - i) ?_ ?_
            · refine ⟨i, by omega, hi2, rfl, hp, ?_⟩
              (refine anew [0] ?_ (by decide) ?_ ?_ ?_ rfl ?_ ?_ <;> simp [-List.map_map, embAt, nm, rn_rw, rn_ro, rn_map, rn_iter, rn_dead, renL, Val.ren, wfAll, wn_rw, wn_ro, wn_map, wn_iter, wn_dead, wfL, Val.wf, Env.get, initEnv, rC_ren, rC_wf])
            · clear hp hi1 hi2
              rintro k ρ H ⟨i, hi1, hi2, rfl, hp, ha⟩
              refine ei_anewS ha ?_
              clear ha
              by_cases hij : i ≤ j
              · have hd : ((i : Nat) : Int) ≤ ((j : Nat) : Int) := by omega
                have hin : i < n := by omega
                (have g0 := decide_t hd; have g1 := fun qf => rC_get (f := qf) hin; have g2 := fun qf => rC_get (f := qf) han; refine GG3 ?_; clear g0 g1 g2)
                (first | ((with_reducible first | apply RunP.call | apply Run.call | apply Run.call0); iterate 2 (· (simp only [go_sem, reduceIte, Nat.reduceEqDiff]; (try with_reducible exact rfl)))) | ((with_reducible first | apply Run.callY | apply RunP.callY); iterate 3 (· (simp only [go_sem, reduceIte, Nat.reduceEqDiff]; (try with_reducible exact rfl)))))
                refine (cmp_ok _ _ _).mono ?_
                rintro v H' ⟨rfl, rfl⟩
                (first | refine And.intro rfl ?_ | refine And.intro trivial ?_ | skip)
                by_cases hc : ltE (g i) (g a)
                · have hcv : cV (g i) (g a) < 0 := (cV_lt _ _).2 hc
                  have e : ((i : Nat) : Int) + 1 = ((i + 1 : Nat) : Int) := by omega
                  (have g0 := decide_t hcv; have g1 := e; refine GG2 ?_; clear g0 g1)
                  refine ⟨j + 1 - (i + 1), by omega, i + 1, by omega, by omega, rfl, hp.inc hc, ?_⟩
                  (refine anew [0] ?_ (by decide) ?_ ?_ ?_ rfl ?_ ?_ <;> simp [-List.map_map, embAt, nm, rn_rw, rn_ro, rn_map, rn_iter, rn_dead, renL, Val.ren, wfAll, wn_rw, wn_ro, wn_map, wn_iter, wn_dead, wfL, Val.wf, Env.get, initEnv, rC_ren, rC_wf])
                · have hcv : ¬ cV (g i) (g a) < 0 := fun h => hc ((cV_lt _ _).1 h)
                  (have g0 := decide_f hcv; refine GG1 ?_; clear g0)
                  refine ⟨i, hi1, hi2, hp, fun _ => (htg _ _ han hin (by omega)).resolve_right hc, ?_⟩
                  (refine anew [0] ?_ (by decide) ?_ ?_ ?_ rfl ?_ ?_ <;> simp [-List.map_map, embAt, nm, rn_rw, rn_ro, rn_map, rn_iter, rn_dead, renL, Val.ren, wfAll, wn_rw, wn_ro, wn_map, wn_iter, wn_dead, wfL, Val.wf, Env.get, initEnv, rC_ren, rC_wf])
              · have hd : ¬ ((i : Nat) : Int) ≤ ((j : Nat) : Int) := by omega
                (have g0 := decide_f hd; refine GG1 ?_; clear g0)
                refine ⟨i, hi1, hi2, hp, fun h => absurd h hij, ?_⟩
                (refine anew [0] ?_ (by decide) ?_ ?_ ?_ rfl ?_ ?_ <;> simp [-List.map_map, embAt, nm, rn_rw, rn_ro, rn_map, rn_iter, rn_dead, renL, Val.ren, wfAll, wn_rw, wn_ro, wn_map, wn_iter, wn_dead, wfL, Val.wf, Env.get, initEnv, rC_ren, rC_wf])
          · clear hp hi1 hi2
            rintro ρ H ⟨i, hi1, hi2, hp, hgi, ha⟩
            refine ei_anewS ha ?_
            clear ha
            refine GG0 ?_
            refine ei_midB (M := PM2 g n a b i j) ?_ ?_
            · refine ei_loop (PL2 g n a b i j) (n := 0 + j) ?_ ?_
              · refine ⟨j, hj1, by omega, hi2, rfl, hp, hgi, ?_⟩
                (refine anew [0] ?_ (by decide) ?_ ?_ ?_ rfl ?_ ?_ <;> simp [-List.map_map, embAt, nm, rn_rw, rn_ro, rn_map, rn_iter, rn_dead, renL, Val.ren, wfAll, wn_rw, wn_ro, wn_map, wn_iter, wn_dead, wfL, Val.wf, Env.get, initEnv, rC_ren, rC_wf])
              · clear hp hi2 hj1 hj2 hgi
                rintro k ρ H ⟨j, hj1, hj2, hi2, rfl, hp, hgi, ha⟩
                refine ei_anewS ha ?_
                clear ha
                by_cases hij : i ≤ j
                · have hd : ((i : Nat) : Int) ≤ ((j : Nat) : Int) := by omega
                  have hin : i < n := by omega
                  have hjn : j < n := by omega
                  (have g0 := decide_t hd; have g1 := fun qf => rC_get (f := qf) hjn; have g2 := fun qf => rC_get (f := qf) han; refine GG3 ?_; clear g0 g1 g2)
                  (first | ((with_reducible first | apply RunP.call | apply Run.call | apply Run.call0); iterate 2 (· (simp only [go_sem, reduceIte, Nat.reduceEqDiff]; (try with_reducible exact rfl)))) | ((with_reducible first | apply Run.callY | apply RunP.callY); iterate 3 (· (simp only [go_sem, reduceIte, Nat.reduceEqDiff]; (try with_reducible exact rfl)))))
                  refine (cmp_ok _ _ _).mono ?_
                  rintro v H' ⟨rfl, rfl⟩
                  (first | refine And.intro rfl ?_ | refine And.intro trivial ?_ | skip)
                  by_cases hc : ltE (g j) (g a)
                  · have hcv : cV (g j) (g a) < 0 := (cV_lt _ _).2 hc
                    (have g0 := decide_t hcv; refine GG1 ?_; clear g0)
                    refine ⟨j, hj1, hj2, hi2, hp, fun _ => ⟨hgi hij, hc⟩, ?_⟩
                    (refine anew [0] ?_ (by decide) ?_ ?_ ?_ rfl ?_ ?_ <;> simp [-List.map_map, embAt, nm, rn_rw, rn_ro, rn_map, rn_iter, rn_dead, renL, Val.ren, wfAll, wn_rw, wn_ro, wn_map, wn_iter, wn_dead, wfL, Val.wf, Env.get, initEnv, rC_ren, rC_wf])
                  · have hcv : ¬ cV (g j) (g a) < 0 := fun h => hc ((cV_lt _ _).1 h)
                    obtain ⟨j, rfl⟩ : ∃ j', j = j' + 1 := ⟨j - 1, by omega⟩
                    have e : ((j + 1 : Nat) : Int) - 1 = ((j : Nat) : Int) := by omega
                    (have g0 := decide_f hcv; have g1 := e; refine GG2 ?_; clear g0 g1)
                    refine ⟨0 + j, by omega, j, by omega, by omega, by omega, rfl, hp.dec ((htg _ _ han hjn (by omega)).resolve_right hc), fun _ => hgi hij, ?_⟩
                    (refine anew [0] ?_ (by decide) ?_ ?_ ?_ rfl ?_ ?_ <;> simp [-List.map_map, embAt, nm, rn_rw, rn_ro, rn_map, rn_iter, rn_dead, renL, Val.ren, wfAll, wn_rw, wn_ro, wn_map, wn_iter, wn_dead, wfL, Val.wf, Env.get, initEnv, rC_ren, rC_wf])
                · have hd : ¬ ((i : Nat) : Int) ≤ ((j : Nat) : Int) := by omega
                  (have g0 := decide_f hd; refine GG1 ?_; clear g0)
                  refine ⟨j, hj1, hj2, hi2, hp, fun h => absurd h hij, ?_⟩
                  (refine anew [0] ?_ (by decide) ?_ ?_ ?_ rfl ?_ ?_ <;> simp [-List.map_map, embAt, nm, rn_rw, rn_ro, rn_map, rn_iter, rn_dead, renL, Val.ren, wfAll, wn_rw, wn_ro, wn_map, wn_iter, wn_dead, wfL, Val.wf, Env.get, initEnv, rC_ren, rC_wf])
            · clear hp hi2 hj1 hj2 hgi
              rintro ρ H ⟨j, hj1, hj2, hi2, hp, hgj, ha⟩
              refine ei_anewS ha ?_
              clear ha
              by_cases hij : i ≤ j
              · obtain ⟨h1, h2⟩ := hgj hij
                have hne : i ≠ j := fun e => ltE_ord.asymm h1 (by rw [e]; exact h2)
                have hin : i < n := by omega
                obtain ⟨j, rfl⟩ : ∃ j', j = j' + 1 := ⟨j - 1, by omega⟩
                have hjn : j + 1 < n := by omega
                have hd : ¬ ((i : Nat) : Int) > ((j + 1 : Nat) : Int) := by omega
                have e : ((j + 1 : Nat) : Int) - 1 = ((j : Nat) : Int) := by omega
                have e2 : ((i : Nat) : Int) + 1 = ((i + 1 : Nat) : Int) := by omega
                (have g0 := decide_f hd; have g1 := e; have g2 := e2; have g3 := fun qf => rC_get (f := qf) hin; have g4 := fun qf => rC_get (f := qf) hjn; have g5 := fun qf q0 => rC_wr (f := qf) q0 hin; have g6 := fun qf q0 => rC_wr (f := qf) q0 hjn; have g7 := rC_len; refine GG8 ?_; clear g0 g1 g2 g3 g4 g5 g6 g7)
                have hsw : rC (So.upd (So.upd g i (g (j + 1))) (j + 1) (g i)) n = rC (swp g i (j + 1)) n := rfl
                rw [hsw]
                have hs' : Sws a b f (swp g i (j + 1)) := .swap _ _ hs ⟨by omega, by omega⟩ ⟨by omega, by omega⟩
                have hp' := hp.swap (by omega) (by omega) h1 h2
                refine ⟨j + 1 - (i + 1), by omega, i + 1, j, swp g i (j + 1), by omega, by omega, by omega, by omega, rfl, hs', hp', ?_⟩
                (refine anew [0] ?_ (by decide) ?_ ?_ ?_ rfl ?_ ?_ <;> simp [-List.map_map, embAt, nm, rn_rw, rn_ro, rn_map, rn_iter, rn_dead, renL, Val.ren, wfAll, wn_rw, wn_ro, wn_map, wn_iter, wn_dead, wfL, Val.wf, Env.get, initEnv, rC_ren, rC_wf])
              · have hd : ((i : Nat) : Int) > ((j : Nat) : Int) := by omega
                have hjn : j < n := by omega
                (have g0 := decide_t hd; have g1 := fun qf => rC_get (f := qf) han; have g2 := fun qf => rC_get (f := qf) hjn; have g3 := fun qf q0 => rC_wr (f := qf) q0 han; have g4 := fun qf q0 => rC_wr (f := qf) q0 hjn; have g5 := rC_len; refine GG6 ?_; clear g0 g1 g2 g3 g4 g5)
                have hsw : rC (So.upd (So.upd g j (g a)) a (g j)) n = rC (swp g j a) n := rfl
                rw [hsw]
                refine told [0] [.rw (rC (swp g j a) n)] (.tup [.i .i64 (j : Nat), .b false]) ?_ (by decide) ?_ ?_ ?_ rfl ?_ ?_ ?_; iterate 6 (· simp [-List.map_map, embAt, nm, rn_rw, rn_ro, rn_map, rn_iter, rn_dead, renL, Val.ren, wfAll, wn_rw, wn_ro, wn_map, wn_iter, wn_dead, wfL, Val.wf, Env.get, initEnv, rC_ren, rC_wf])
                exact ⟨swp g j a, .swap _ _ hs ⟨by omega, by omega⟩ ⟨by omega, by omega⟩, ⟨j, false, rfl, hj1, hj2.1, hp.fin (by omega) hj1⟩, rfl⟩
      · have hd : ((i : Nat) : Int) > ((j : Nat) : Int) := by omega
        have hjn : j < n := by omega
        (have g0 := decide_t hd; have g1 := fun qf => rC_get (f := qf) han; have g2 := fun qf => rC_get (f := qf) hjn; have g3 := fun qf q0 => rC_wr (f := qf) q0 han; have g4 := fun qf q0 => rC_wr (f := qf) q0 hjn; have g5 := rC_len; refine GG6 ?_; clear g0 g1 g2 g3 g4 g5)
        have hsw : rC (So.upd (So.upd g j (g a)) a (g j)) n = rC (swp g j a) n := rfl
        rw [hsw]
        refine told [0] [.rw (rC (swp g j a) n)] (.tup [.i .i64 (j : Nat), .b true]) ?_ (by decide) ?_ ?_ ?_ rfl ?_ ?_ ?_; iterate 6 (· simp [-List.map_map, embAt, nm, rn_rw, rn_ro, rn_map, rn_iter, rn_dead, renL, Val.ren, wfAll, wn_rw, wn_ro, wn_map, wn_iter, wn_dead, wfL, Val.wf, Env.get, initEnv, rC_ren, rC_wf])
        exact ⟨swp g j a, .swap _ _ hs ⟨by omega, by omega⟩ ⟨by omega, by omega⟩, ⟨j, true, rfl, hj1, hj2.1, hp.fin (by omega) hj1⟩, rfl⟩
end Go.Proofs.YtmdilnelogechaaDoor.IR
