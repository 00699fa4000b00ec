/- This text of a proof shows: a heap is sifted down, and a row is sorted by a heap. -/
import Derived.Test.YtmdilnelogechaaDoorGg
import Derived.Test.YtmdilnelogechaaDoorSi09
import Derived.Test.YtmdilnelogechaaDoorKl
set_option linter.unusedVariables false
set_option linter.unusedSimpArgs false
set_option linter.constructorNameAsVariable false
namespace Go.Proofs.YtmdilnelogechaaDoor.IR
open Go Go.Proofs.YtmdilnelogechaaDoor.Ev Go.Proofs.YtmdilnelogechaaDoor.Ev.Rb Go.Proofs.YtmdilnelogechaaDoor.Ev.So
set_option linter.unusedSimpArgs false
set_option linter.unusedVariables false
set_option maxHeartbeats 4000000
attribute [local go_sem] skipV nc0 nc1 nc2 nc3 bne_self_eq_false decide_true decide_false IOp.step Opd.ev Env.get initEnv Val.cells? Val.one List.all_cons List.all_nil Bool.and_true Bool.and_self Bool.true_and bin ints eqv Val.kindNo lenNo_s lenNo_nils lenNo_sl lenNo_nilm lenNo_m lenOf_s lenOf_nils lenOf_sl lenOf_nilm unary partsOf padTo List.foldl_cons List.foldl_nil wr_nil wr_step wr_zero List.set_cons_zero List.set_cons_succ List.map_cons List.map_nil z1 z2 Nat.succ_ne_zero List.length_cons List.length_nil List.cons_append List.nil_append List.append_nil List.getElem?_cons_zero List.getElem?_cons_succ List.getElem?_nil Option.map_some Option.map_none Nat.zero_add Nat.add_zero List.drop_zero List.drop_succ_cons List.take_succ_cons List.take_zero List.take_nil and_self and_true true_and Nat.le_refl Bool.not_true Bool.not_false Option.getD_some window Val.slen bnd resV resL RV.val Bool.false_eq_true BEq.rfl Bool.true_beq Bool.false_beq beq_true beq_false mk_one ite_true ite_false eqc ceqs ceq NOp.step isK eq_self
attribute [local go_sem] nat_toNat en_all en3
theorem ei_mid2 {P : Program} {N m : Nat} {x b : ICode} {ρ : Env} {H : Heap} {K : Env → Heap → Prop} {Q Q1 : Exit → Env → Heap → Prop} (M : Env → Heap → Prop)
    (h : EvI P N m x ρ H (thenQ (fun ρ' H' => EvI P N m b ρ' H' (thenQ M Q)) Q1)) (k : ∀ ρ' H', M ρ' H' → K ρ' H') :
    EvI P N m x ρ H (thenQ (fun ρ' H' => EvI P N m b ρ' H' (thenQ K Q)) Q1) := ei_mid _ h fun _ _ q => ei_mid M q k
def SdI (f : Row) (n lo hi s : Nat) (k : Nat) (ρ : Env) (H : Heap) : Prop :=
  ∃ (x : Nat) (g : Row), lo ≤ x ∧ (x = lo ∨ x < hi) ∧ k = hi + lo - x ∧ Sws (s + lo) (s + hi) f g ∧ Hp ltE g s lo hi x ∧ HpUp ltE g s lo hi x ∧
    AnewS 1 [.rw (rC g n)] [(0, (.sl 0 0 n 3)), (2, .i .i64 (hi : Nat)), (3, .i .i64 (s : Nat)), (4, (.fn (.func 33) [] [])), (10, .i .i64 (x : Nat))] ρ H
theorem sift_c (f : Row) (n lo hi s : Nat) (hb : s + hi ≤ n) (hlo : lo ≤ hi) (hn : n ≤ 100000) (ht : Tot ltE f n) (hh : Hp ltE f s lo hi lo) :
    SoundM Tryd.prog 1 75 [(.sl 0 0 n 3), .i .i64 (lo : Nat), .i .i64 (hi : Nat), .i .i64 (s : Nat), (.fn (.func 33) [] [])] [.rw (rC f n)] (Sw f n (s + lo) (s + hi) fun v g => v = .tup [] ∧ HpA ltE g s lo hi) := by
  refine sound_told (sound_func Tryd.func75 c75 rfl (by simp) ?_)
  simp only [e75, s75]
  refine GG0 ?_
  refine ei_loop (SdI f n lo hi s) (n := hi + lo - lo) ?_ ?_
  · refine ⟨lo, f, Nat.le_refl _, .inl rfl, rfl, .refl, hh, HpUp.start, ?_⟩
    (refine anew [0] ?_ (by decide) ?_ ?_ ?_ rfl ?_ ?_ <;> simp [-List.map_map, embAt, nm, rn_rw, rn_ro, rn_map, rn_iter, rn_dead, renL, Val.ren, wfAll, wn_rw, wn_ro, wn_map, wn_iter, wn_dead, wfL, Val.wf, Env.get, initEnv, rC_ren, rC_wf])
  · clear hh
    rintro k ρ H ⟨x, g, hx1, hx2, rfl, hs, hh, hu, ha⟩
    refine ei_anewS ha ?_
    clear ha
    have hl3 := rC_len g n
    have htg := hs.tot ht hb
    have e1 : 2 * ((x : Nat) : Int) + 1 = ((2 * x + 1 : Nat) : Int) := by omega
    by_cases hc1 : 2 * x + 1 < hi
    · have hd : ¬ ((2 * x + 1 : Nat) : Int) ≥ ((hi : Nat) : Int) := by omega
      have e2 : ((2 * x + 1 : Nat) : Int) + 1 = ((2 * x + 2 : Nat) : Int) := by omega
      (have g0 := e1; have g1 := e2; have g2 := decide_f hd; refine GN3 ?_; clear g0 g1 g2)
      refine ei_mid2 (M := fun ρ H => ∃ c : Nat, (c = 2 * x + 1 ∨ c = 2 * x + 2) ∧ c < hi ∧ (∀ d, (d = 2 * x + 1 ∨ d = 2 * x + 2) → d < hi → d ≠ c → ltE (g (s + d)) (g (s + c))) ∧
        AnewS 1 [.rw (rC g n)] [(0, (.sl 0 0 n 3)), (2, .i .i64 (hi : Nat)), (3, .i .i64 (s : Nat)), (4, (.fn (.func 33) [] [])), (10, .i .i64 (x : Nat)), (11, .i .i64 (c : Nat))] ρ H) ?_ ?_
      · have e3 : ((s : Nat) : Int) + ((2 * x + 1 : Nat) : Int) = ((s + (2 * x + 1) : Nat) : Int) := by omega
        have e4 : ((s + (2 * x + 1) : Nat) : Int) + 1 = ((s + (2 * x + 2) : Nat) : Int) := by omega
        by_cases hc2 : 2 * x + 2 < hi
        · have hd2 : ((2 * x + 2 : Nat) : Int) < ((hi : Nat) : Int) := by omega
          (have g0 := e2; have g1 := e3; have g2 := e4; have g3 := decide_t hd2; have g4 := fun qf => rC_get (f := qf) (show s + (2 * x + 1) < n by omega); have g5 := fun qf => rC_get (f := qf) (show s + (2 * x + 2) < n by omega); refine GG6 ?_; clear g0 g1 g2 g3 g4 g5)
          (first | ((with_reducible first | apply RunP.call | apply Run.call | apply Run.call0); iterate 2 (· (simp only [go_sem, reduceIte, Nat.reduceEqDiff]; (try with_reducible exact rfl)))) | ((with_reducible first | apply Run.callY | apply RunP.callY); iterate 3 (· (simp only [go_sem, reduceIte, Nat.reduceEqDiff]; (try with_reducible exact rfl)))))
          refine (cmp_ok _ _ _).mono ?_
          rintro v H' ⟨rfl, rfl⟩
          (first | refine And.intro rfl ?_ | refine And.intro trivial ?_ | skip)
          by_cases hc : ltE (g (s + (2 * x + 1))) (g (s + (2 * x + 2)))
          · have hcv : cV (g (s + (2 * x + 1))) (g (s + (2 * x + 2))) < 0 := (cV_lt _ _).2 hc
            (have g0 := e2; have g1 := decide_t hcv; refine GG2 ?_; clear g0 g1)
            refine ⟨2 * x + 2, .inr rfl, hc2, fun d h1 h2 h3 => ?_, ?_⟩
            · obtain rfl : d = 2 * x + 1 := by omega
              exact hc
            · (refine anew [0] ?_ (by decide) ?_ ?_ ?_ rfl ?_ ?_ <;> simp [-List.map_map, embAt, nm, rn_rw, rn_ro, rn_map, rn_iter, rn_dead, renL, Val.ren, wfAll, wn_rw, wn_ro, wn_map, wn_iter, wn_dead, wfL, Val.wf, Env.get, initEnv, rC_ren, rC_wf])
          · have hcv : ¬ cV (g (s + (2 * x + 1))) (g (s + (2 * x + 2))) < 0 := fun h => hc ((cV_lt _ _).1 h)
            (have g0 := e2; have g1 := decide_f hcv; refine GG2 ?_; clear g0 g1)
            refine ⟨2 * x + 1, .inl rfl, hc1, fun d h1 h2 h3 => ?_, ?_⟩
            · obtain rfl : d = 2 * x + 2 := by omega
              exact (htg _ _ (by omega) (by omega) (by omega)).resolve_left hc
            · (refine anew [0] ?_ (by decide) ?_ ?_ ?_ rfl ?_ ?_ <;> simp [-List.map_map, embAt, nm, rn_rw, rn_ro, rn_map, rn_iter, rn_dead, renL, Val.ren, wfAll, wn_rw, wn_ro, wn_map, wn_iter, wn_dead, wfL, Val.wf, Env.get, initEnv, rC_ren, rC_wf])
        · have hd2 : ¬ ((2 * x + 2 : Nat) : Int) < ((hi : Nat) : Int) := by omega
          (have g0 := e2; have g1 := decide_f hd2; refine GG2 ?_; clear g0 g1)
          refine ⟨2 * x + 1, .inl rfl, hc1, fun d h1 h2 h3 => by omega, ?_⟩
          (refine anew [0] ?_ (by decide) ?_ ?_ ?_ rfl ?_ ?_ <;> simp [-List.map_map, embAt, nm, rn_rw, rn_ro, rn_map, rn_iter, rn_dead, renL, Val.ren, wfAll, wn_rw, wn_ro, wn_map, wn_iter, wn_dead, wfL, Val.wf, Env.get, initEnv, rC_ren, rC_wf])
      · rintro ρ H ⟨c, hc, hch, hm, ha⟩
        refine ei_anewS ha ?_
        clear ha
        have hcn : s + c < n := by omega
        have hxn : s + x < n := by omega
        have e3 : ((s : Nat) : Int) + ((x : Nat) : Int) = ((s + x : Nat) : Int) := by omega
        have e4 : ((s : Nat) : Int) + ((c : Nat) : Int) = ((s + c : Nat) : Int) := by omega
        (have g0 := e3; have g1 := e4; have g2 := fun qf => rC_get (f := qf) hxn; have g3 := fun qf => rC_get (f := qf) hcn; refine GG4 ?_; clear g0 g1 g2 g3)
        (first | ((with_reducible first | apply RunP.call | apply Run.call | apply Run.call0); iterate 2 (· (simp only [go_sem, reduceIte, Nat.reduceEqDiff]; (try with_reducible exact rfl)))) | ((with_reducible first | apply Run.callY | apply RunP.callY); iterate 3 (· (simp only [go_sem, reduceIte, Nat.reduceEqDiff]; (try with_reducible exact rfl)))))
        refine (cmp_ok _ _ _).mono ?_
        rintro v H' ⟨rfl, rfl⟩
        (first | refine And.intro rfl ?_ | refine And.intro trivial ?_ | skip)
        by_cases hx : ltE (g (s + x)) (g (s + c))
        · have hcv : cV (g (s + x)) (g (s + c)) < 0 := (cV_lt _ _).2 hx
          (have g0 := e3; have g1 := e4; have g2 := decide_t hcv; have g3 := fun qf => rC_get (f := qf) hxn; have g4 := fun qf => rC_get (f := qf) hcn; have g5 := fun qf q0 => rC_wr (f := qf) q0 hxn; have g6 := fun qf q0 => rC_wr (f := qf) q0 hcn; have g7 := rC_len; refine GG8 ?_; clear g0 g1 g2 g3 g4 g5 g6 g7)
          have hsw : rC (So.upd (So.upd g (s + x) (g (s + c))) (s + c) (g (s + x))) n = rC (swp g (s + x) (s + c)) n := rfl
          rw [hsw]
          refine ⟨hi + lo - c, by omega, c, swp g (s + x) (s + c), by omega, .inr hch, rfl, .swap _ _ hs ⟨by omega, by omega⟩ ⟨by omega, by omega⟩, hh.step hu hc hch hm hx, hh.step_up hx1 hc, ?_⟩
          (refine anew [0] ?_ (by decide) ?_ ?_ ?_ rfl ?_ ?_ <;> simp [-List.map_map, embAt, nm, rn_rw, rn_ro, rn_map, rn_iter, rn_dead, renL, Val.ren, wfAll, wn_rw, wn_ro, wn_map, wn_iter, wn_dead, wfL, Val.wf, Env.get, initEnv, rC_ren, rC_wf])
        · have hcv : ¬ cV (g (s + x)) (g (s + c)) < 0 := fun h => hx ((cV_lt _ _).1 h)
          have hx' := (htg _ _ hcn hxn (by omega)).resolve_right hx
          (have g0 := decide_f hcv; refine GG1 ?_; clear g0)
          refine told [0] [.rw (rC g n)] (.tup []) ?_ (by decide) ?_ ?_ ?_ rfl ?_ ?_ ?_; iterate 6 (· simp [-List.map_map, embAt, nm, rn_rw, rn_ro, rn_map, rn_iter, rn_dead, renL, Val.ren, wfAll, wn_rw, wn_ro, wn_map, wn_iter, wn_dead, wfL, Val.wf, Env.get, initEnv, rC_ren, rC_wf])
          refine ⟨g, hs, ⟨rfl, hh.done fun d h1 h2 => ?_⟩, rfl⟩
          by_cases e : d = c
          · subst e; exact hx'
          · exact ltE_ord.trans (hm d h1 h2 e) hx'
    · have hd : ((2 * x + 1 : Nat) : Int) ≥ ((hi : Nat) : Int) := by omega
      (have g0 := e1; have g1 := decide_t hd; refine GG2 ?_; clear g0 g1)
      refine told [0] [.rw (rC g n)] (.tup []) ?_ (by decide) ?_ ?_ ?_ rfl ?_ ?_ ?_; iterate 6 (· simp [-List.map_map, embAt, nm, rn_rw, rn_ro, rn_map, rn_iter, rn_dead, renL, Val.ren, wfAll, wn_rw, wn_ro, wn_map, wn_iter, wn_dead, wfL, Val.wf, Env.get, initEnv, rC_ren, rC_wf])
      exact ⟨g, hs, ⟨rfl, hh.done fun c h1 h2 => by omega⟩, rfl⟩
def Hs1 (f : Row) (n a l : Nat) (k : Nat) (ρ : Env) (H : Heap) : Prop :=
  ∃ g : Row, k ≤ l ∧ Sws a (a + l) f g ∧ HpA ltE g a k l ∧ AnewS 1 [.rw (rC g n)] [(0, (.sl 0 0 n 3)), (3, (.fn (.func 33) [] [])), (8, .i .i64 (a : Nat)), (9, .i .i64 0), (10, .i .i64 (l : Nat)), (11, .i .i64 ((k : Nat) - 1 : Int))] ρ H
def Hs2 (f : Row) (n a l : Nat) (k : Nat) (ρ : Env) (H : Heap) : Prop :=
  ∃ g : Row, k ≤ l ∧ Sws a (a + l) f g ∧ HpA ltE g a 0 k ∧ Tail ltE g a k (a + l) ∧ AnewS 1 [.rw (rC g n)] [(0, (.sl 0 0 n 3)), (3, (.fn (.func 33) [] [])), (8, .i .i64 (a : Nat)), (9, .i .i64 0), (10, .i .i64 (l : Nat)), (12, .i .i64 ((k : Nat) - 1 : Int))] ρ H
theorem heap_c (f : Row) (n a b : Nat) (hab : a < b) (hb : b ≤ n) (hn : n ≤ 100000) (ht : Tot ltE f n) :
    SoundM Tryd.prog 1 63 [(.sl 0 0 n 3), .i .i64 (a : Nat), .i .i64 (b : Nat), (.fn (.func 33) [] [])] [.rw (rC f n)] (Sw f n a b fun v g => v = .tup [] ∧ Srt ltE g a b) := by
  refine sound_told (sound_func Tryd.func63 c63 rfl (by simp) ?_)
  obtain ⟨l, rfl⟩ : ∃ l, b = a + l := ⟨b - a, by omega⟩
  have e0 : (((a + l : Nat) : Int)) - ((a : Nat) : Int) = ((l : Nat) : Int) := by omega
  have e1 : ((l : Nat) : Int) - 1 = ((l - 1 : Nat) : Int) := by omega
  have e2 : ((l - 1 : Nat) : Int) / 2 = (((l - 1) / 2 : Nat) : Int) := by omega
  simp only [e63, s63]
  (have g0 := e0; have g1 := e1; have g2 := e2; refine GG3 ?_; clear g0 g1 g2)
  refine ei_loop (Hs1 f n a l) (n := (l - 1) / 2 + 1) ?_ ?_
  · have e3 : ((((l - 1) / 2 + 1 : Nat) : Int)) - 1 = (((l - 1) / 2 : Nat) : Int) := by omega
    refine ⟨f, by omega, .refl, HpA.start (by omega), ?_⟩
    rw [e3]
    (refine anew [0] ?_ (by decide) ?_ ?_ ?_ rfl ?_ ?_ <;> simp [-List.map_map, embAt, nm, rn_rw, rn_ro, rn_map, rn_iter, rn_dead, renL, Val.ren, wfAll, wn_rw, wn_ro, wn_map, wn_iter, wn_dead, wfL, Val.wf, Env.get, initEnv, rC_ren, rC_wf])
  · rintro k ρ H ⟨g, hk, hs, hh, ha⟩
    refine ei_anewS ha ?_
    clear ha
    have hl3 := rC_len g n
    have htg := hs.tot ht hb
    by_cases hz : 0 < k
    · obtain ⟨i, rfl⟩ : ∃ i, k = i + 1 := ⟨k - 1, by omega⟩
      have e3 : ((i + 1 : Nat) : Int) - 1 = ((i : Nat) : Int) := by omega
      have hd : ((i : Nat) : Int) ≥ 0 := by omega
      rw [e3]
      (have g0 := decide_t hd; refine GG1 ?_; clear g0)
      (first | ((with_reducible first | apply RunP.call | apply Run.call | apply Run.call0); iterate 2 (· (simp only [go_sem, reduceIte, Nat.reduceEqDiff]; (try with_reducible exact rfl)))) | ((with_reducible first | apply Run.callY | apply RunP.callY); iterate 3 (· (simp only [go_sem, reduceIte, Nat.reduceEqDiff]; (try with_reducible exact rfl)))))
      refine sound_use (sift_c g n i l a hb (by omega) hn htg (Hp.start hh)) [0] rfl (by decide) ?_ ?_ ?_ ?_ ?_; iterate 4 (· simp [-List.map_map, embAt, nm, rn_rw, rn_ro, rn_map, rn_iter, rn_dead, renL, Val.ren, wfAll, wn_rw, wn_ro, wn_map, wn_iter, wn_dead, wfL, Val.wf, Env.get, initEnv, Val.ren, rC_ren, rC_wf])
      rintro v C' ⟨g', hs', ⟨rfl, hh'⟩, rfl⟩
      simp only [merge, place, after, nm, MG, Val.ren, renL, rn_rw, rn_ro, rn_map, rn_iter, rn_dead, reduceIte, Nat.reduceLT, Nat.reduceAdd, Nat.reduceSub, Nat.lt_irrefl, Nat.zero_lt_one, Nat.zero_lt_succ, rC_ren]
      refine GG0 ?_
      refine ⟨i, by omega, g', by omega, hs.trans (hs'.mono (by omega) (by omega)), hh', ?_⟩
      (refine anew [0] ?_ (by decide) ?_ ?_ ?_ rfl ?_ ?_ <;> simp [-List.map_map, embAt, nm, rn_rw, rn_ro, rn_map, rn_iter, rn_dead, renL, Val.ren, wfAll, wn_rw, wn_ro, wn_map, wn_iter, wn_dead, wfL, Val.wf, Env.get, initEnv, rC_ren, rC_wf])
    · obtain rfl : k = 0 := by omega
      have hd : ¬ (-1 : Int) ≥ 0 := by omega
      (have g0 := decide_f hd; have g1 := e1; refine GG2 ?_; clear g0 g1)
      refine ei_loop (Hs2 f n a l) (n := l) ?_ ?_
      · refine ⟨g, Nat.le_refl _, hs, hh, ⟨.small (by omega), fun i j h1 h2 h3 h4 => by omega⟩, ?_⟩
        rw [e1]
        (refine anew [0] ?_ (by decide) ?_ ?_ ?_ rfl ?_ ?_ <;> simp [-List.map_map, embAt, nm, rn_rw, rn_ro, rn_map, rn_iter, rn_dead, renL, Val.ren, wfAll, wn_rw, wn_ro, wn_map, wn_iter, wn_dead, wfL, Val.wf, Env.get, initEnv, rC_ren, rC_wf])
      · clear hs hh htg hl3 hk hz hd
        rintro k ρ H ⟨g, hk, hs, hh, hta, ha⟩
        refine ei_anewS ha ?_
        clear ha
        have hl3 := rC_len g n
        by_cases hz : 0 < k
        · obtain ⟨i, rfl⟩ : ∃ i, k = i + 1 := ⟨k - 1, by omega⟩
          have e3 : ((i + 1 : Nat) : Int) - 1 = ((i : Nat) : Int) := by omega
          have e4 : ((a : Nat) : Int) + ((i : Nat) : Int) = ((a + i : Nat) : Int) := by omega
          have hd : ((i : Nat) : Int) ≥ 0 := by omega
          have han : a < n := by omega
          have hin : a + i < n := by omega
          rw [e3]
          have hs1 : Sws a (a + l) f (swp g a (a + i)) := .swap _ _ hs ⟨by omega, by omega⟩ ⟨by omega, by omega⟩
          have htg := hs1.tot ht hb
          (have g0 := decide_t hd; have g1 := e4; have g2 := fun qf => rC_get (f := qf) han; have g3 := fun qf => rC_get (f := qf) hin; have g4 := fun qf q0 => rC_wr (f := qf) q0 han; have g5 := fun qf q0 => rC_wr (f := qf) q0 hin; have g6 := rC_len; refine GG7 ?_; clear g0 g1 g2 g3 g4 g5 g6)
          have hsw : rC (So.upd (So.upd g a (g (a + i))) (a + i) (g a)) n = rC (swp g a (a + i)) n := rfl
          rw [hsw]
          (first | ((with_reducible first | apply RunP.call | apply Run.call | apply Run.call0); iterate 2 (· (simp only [go_sem, reduceIte, Nat.reduceEqDiff]; (try with_reducible exact rfl)))) | ((with_reducible first | apply Run.callY | apply RunP.callY); iterate 3 (· (simp only [go_sem, reduceIte, Nat.reduceEqDiff]; (try with_reducible exact rfl)))))
          refine sound_use (sift_c (swp g a (a + i)) n 0 i a (by omega) (by omega) hn htg hh.swap) [0] rfl (by decide) ?_ ?_ ?_ ?_ ?_; iterate 4 (· simp [-List.map_map, embAt, nm, rn_rw, rn_ro, rn_map, rn_iter, rn_dead, renL, Val.ren, wfAll, wn_rw, wn_ro, wn_map, wn_iter, wn_dead, wfL, Val.wf, Env.get, initEnv, Val.ren, rC_ren, rC_wf])
          rintro v C' ⟨g', hs', ⟨rfl, hh'⟩, rfl⟩
          simp only [merge, place, after, nm, MG, Val.ren, renL, rn_rw, rn_ro, rn_map, rn_iter, rn_dead, reduceIte, Nat.reduceLT, Nat.reduceAdd, Nat.reduceSub, Nat.lt_irrefl, Nat.zero_lt_one, Nat.zero_lt_succ, rC_ren]
          refine GG0 ?_
          refine ⟨i, by omega, g', by omega, hs1.trans (hs'.mono (by omega) (by omega)), hh', (Tail.swap ltE_ord hh hta).sws hs', ?_⟩
          (refine anew [0] ?_ (by decide) ?_ ?_ ?_ rfl ?_ ?_ <;> simp [-List.map_map, embAt, nm, rn_rw, rn_ro, rn_map, rn_iter, rn_dead, renL, Val.ren, wfAll, wn_rw, wn_ro, wn_map, wn_iter, wn_dead, wfL, Val.wf, Env.get, initEnv, rC_ren, rC_wf])
        · obtain rfl : k = 0 := by omega
          have hd : ¬ (-1 : Int) ≥ 0 := by omega
          (have g0 := decide_f hd; have g1 := e1; refine GG2 ?_; clear g0 g1)
          refine told [0] [.rw (rC g n)] (.tup []) ?_ (by decide) ?_ ?_ ?_ rfl ?_ ?_ ?_; iterate 6 (· simp [-List.map_map, embAt, nm, rn_rw, rn_ro, rn_map, rn_iter, rn_dead, renL, Val.ren, wfAll, wn_rw, wn_ro, wn_map, wn_iter, wn_dead, wfL, Val.wf, Env.get, initEnv, rC_ren, rC_wf])
          exact ⟨g, hs, ⟨rfl, hta.1⟩, rfl⟩
end Go.Proofs.YtmdilnelogechaaDoor.IR
