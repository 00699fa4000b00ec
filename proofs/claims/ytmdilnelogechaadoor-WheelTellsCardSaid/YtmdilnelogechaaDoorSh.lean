/- This text of a proof shows: the library's sort of a short row; slices.SortFunc of a short list of items with different keys; slices.Clone. -/
import Derived.Test.YtmdilnelogechaaDoorGg
import Derived.Test.YtmdilnelogechaaDoorSg
import Derived.Test.YtmdilnelogechaaDoorKl
set_option linter.unusedVariables false
set_option linter.unusedSimpArgs false
set_option linter.constructorNameAsVariable false
namespace Go.Proofs.YtmdilnelogechaaDoor.IR
open Go Go.Proofs.YtmdilnelogechaaDoor.Ev Go.Proofs.YtmdilnelogechaaDoor.Ev.Rb Go.Proofs.YtmdilnelogechaaDoor.Ev.So
set_option linter.unusedSimpArgs false
set_option linter.unusedVariables false
set_option maxHeartbeats 4000000
attribute [local go_sem] skipV nc0 nc1 nc2 nc3 bne_self_eq_false decide_true decide_false IOp.step Opd.ev Env.get initEnv Val.cells? Val.one List.all_cons List.all_nil Bool.and_true Bool.and_self Bool.true_and bin ints eqv Val.kindNo lenNo_s lenNo_nils lenNo_sl lenNo_nilm lenNo_m lenOf_s lenOf_nils lenOf_sl lenOf_nilm unary partsOf padTo List.foldl_cons List.foldl_nil wr_nil wr_step wr_zero List.set_cons_zero List.set_cons_succ List.map_cons List.map_nil z1 z2 Nat.succ_ne_zero List.length_cons List.length_nil List.cons_append List.nil_append List.append_nil List.getElem?_cons_zero List.getElem?_cons_succ List.getElem?_nil Option.map_some Option.map_none Nat.zero_add Nat.add_zero List.drop_zero List.drop_succ_cons List.take_succ_cons List.take_zero List.take_nil and_self and_true true_and Nat.le_refl Bool.not_true Bool.not_false Option.getD_some window Val.slen bnd resV resL RV.val Bool.false_eq_true BEq.rfl Bool.true_beq Bool.false_beq beq_true beq_false mk_one ite_true ite_false eqc ceqs ceq NOp.step isK eq_self
attribute [local go_sem] nat_toNat en_all en3
def PqI (f : Row) (n a b : Nat) (r : Nat) (ρ : Env) (H : Heap) : Prop :=
  ∃ (c d k : Nat) (wb wp : Bool) (g : Row), a ≤ c ∧ c ≤ d ∧ d ≤ b ∧ r = d - c ∧ k ≤ 64 ∧ Sws a b f g ∧ Lo ltE g c d ∧ Fin ltE g a b c d ∧
    AnewS 1 [.rw (rC g n)] [(0, (.sl 0 0 n 3)), (1, .i .i64 (c : Nat)), (2, .i .i64 (d : Nat)), (3, .i .i64 (k : Nat)), (4, (.fn (.func 33) [] [])), (10, .b wb), (11, .b wp)] ρ H
def PqA (g0 : Row) (n c d : Nat) (wb wp : Bool) (ρ : Env) (H : Heap) : Prop :=
  ∃ (g : Row) (k : Nat), k ≤ 64 ∧ Sws c d g0 g ∧ AnewS 1 [.rw (rC g n)] [(0, (.sl 0 0 n 3)), (1, .i .i64 (c : Nat)), (2, .i .i64 (d : Nat)), (3, .i .i64 (k : Nat)), (4, (.fn (.func 33) [] [])), (10, .b wb), (11, .b wp), (12, .i .i64 (d - c : Nat))] ρ H
def PqB (g0 : Row) (n c d k : Nat) (wb wp : Bool) (ρ : Env) (H : Heap) : Prop :=
  ∃ (g : Row) (p : Nat) (h : Int), c ≤ p ∧ p < d ∧ Sws c d g0 g ∧ AnewS 1 [.rw (rC g n)] [(0, (.sl 0 0 n 3)), (1, .i .i64 (c : Nat)), (2, .i .i64 (d : Nat)), (3, .i .i64 (k : Nat)), (4, (.fn (.func 33) [] [])), (10, .b wb), (11, .b wp), (12, .i .i64 (d - c : Nat)), (13, .i .i64 (p : Nat)), (14, .i .i64 h)] ρ H
theorem pdq_c (n : Nat) (hn : n < 128) : ∀ (r : Nat) (f : Row) (a b k : Nat), b - a < r → a ≤ b → b ≤ n → k ≤ 64 → Tot ltE f n → Lo ltE f a b →
    SoundM Tryd.prog 1 49 [(.sl 0 0 n 3), .i .i64 (a : Nat), .i .i64 (b : Nat), .i .i64 (k : Nat), (.fn (.func 33) [] [])] [.rw (rC f n)] (Sw f n a b fun v g => v = .tup [] ∧ Srt ltE g a b) := by
  intro r
  induction r with
  | zero => intro f a b k h; omega
  | succ r ih =>
  intro f a b k hr hab hb hk ht hlo
  refine sound_told (sound_func Tryd.func49 c49 rfl (by simp) ?_)
  simp only [e49, s49]
  refine GG0 ?_
  refine ei_loop (PqI f n a b) (n := b - a) ?_ ?_
  · refine ⟨a, b, k, true, true, f, by omega, hab, by omega, rfl, hk, .refl, hlo, .start, ?_⟩
    (refine anew [0] ?_ (by decide) ?_ ?_ ?_ rfl ?_ ?_ <;> simp [-List.map_map, embAt, nm, rn_rw, rn_ro, rn_map, rn_iter, rn_dead, renL, Val.ren, wfAll, wn_rw, wn_ro, wn_map, wn_iter, wn_dead, wfL, Val.wf, Env.get, initEnv, rC_ren, rC_wf])
  · clear hk hlo
    rintro k0 ρ H ⟨c, d, k, wb, wp, g, hac, hcd, hdb, rfl, hk, hs, hlo, hF, ha⟩
    refine ei_anewS ha ?_
    clear ha
    have htg := hs.tot ht hb
    have e0 : ((d : Nat) : Int) - ((c : Nat) : Int) = ((d - c : Nat) : Int) := by omega
    by_cases h12 : d - c ≤ 12
    · have hd : ((d - c : Nat) : Int) ≤ 12 := by omega
      (have g0 := e0; have g1 := decide_t hd; refine GG2 ?_; clear g0 g1)
      (first | ((with_reducible first | apply RunP.call | apply Run.call | apply Run.call0); iterate 2 (· (simp only [go_sem, reduceIte, Nat.reduceEqDiff]; (try with_reducible exact rfl)))) | ((with_reducible first | apply Run.callY | apply RunP.callY); iterate 3 (· (simp only [go_sem, reduceIte, Nat.reduceEqDiff]; (try with_reducible exact rfl)))))
      refine sound_use (ins_c g n c d hcd (by omega) (by omega) htg) [0] rfl (by decide) ?_ ?_ ?_ ?_ ?_; iterate 4 (· simp [-List.map_map, embAt, nm, rn_rw, rn_ro, rn_map, rn_iter, rn_dead, renL, Val.ren, wfAll, wn_rw, wn_ro, wn_map, wn_iter, wn_dead, wfL, Val.wf, Env.get, initEnv, Val.ren, rC_ren, rC_wf])
      rintro v C' ⟨g', hs', ⟨rfl, hso⟩, rfl⟩
      simp only [merge, place, after, nm, MG, Val.ren, renL, rn_rw, rn_ro, rn_map, rn_iter, rn_dead, reduceIte, Nat.reduceLT, Nat.reduceAdd, Nat.reduceSub, Nat.lt_irrefl, Nat.zero_lt_one, Nat.zero_lt_succ, rC_ren]
      refine GG0 ?_
      refine told [0] [.rw (rC g' n)] (.tup []) ?_ (by decide) ?_ ?_ ?_ rfl ?_ ?_ ?_; iterate 6 (· simp [-List.map_map, embAt, nm, rn_rw, rn_ro, rn_map, rn_iter, rn_dead, renL, Val.ren, wfAll, wn_rw, wn_ro, wn_map, wn_iter, wn_dead, wfL, Val.wf, Env.get, initEnv, rC_ren, rC_wf])
      exact ⟨g', hs.trans (hs'.mono hac hdb), ⟨rfl, (hF.sws hs' hac hdb).done hso⟩, rfl⟩
    · have hd : ¬ ((d - c : Nat) : Int) ≤ 12 := by omega
      by_cases hk0 : k = 0
      · subst hk0
        have hkz : (((0 : Nat) : Int) == 0) = true := rfl
        (have g0 := e0; have g1 := decide_f hd; have g2 := hkz; refine GG3 ?_; clear g0 g1 g2)
        (first | ((with_reducible first | apply RunP.call | apply Run.call | apply Run.call0); iterate 2 (· (simp only [go_sem, reduceIte, Nat.reduceEqDiff]; (try with_reducible exact rfl)))) | ((with_reducible first | apply Run.callY | apply RunP.callY); iterate 3 (· (simp only [go_sem, reduceIte, Nat.reduceEqDiff]; (try with_reducible exact rfl)))))
        refine sound_use (heap_c g n c d (by omega) (by omega) (by omega) htg) [0] rfl (by decide) ?_ ?_ ?_ ?_ ?_; iterate 4 (· simp [-List.map_map, embAt, nm, rn_rw, rn_ro, rn_map, rn_iter, rn_dead, renL, Val.ren, wfAll, wn_rw, wn_ro, wn_map, wn_iter, wn_dead, wfL, Val.wf, Env.get, initEnv, Val.ren, rC_ren, rC_wf])
        rintro v C' ⟨g', hs', ⟨rfl, hso⟩, rfl⟩
        simp only [merge, place, after, nm, MG, Val.ren, renL, rn_rw, rn_ro, rn_map, rn_iter, rn_dead, reduceIte, Nat.reduceLT, Nat.reduceAdd, Nat.reduceSub, Nat.lt_irrefl, Nat.zero_lt_one, Nat.zero_lt_succ, rC_ren]
        refine GG0 ?_
        refine told [0] [.rw (rC g' n)] (.tup []) ?_ (by decide) ?_ ?_ ?_ rfl ?_ ?_ ?_; iterate 6 (· simp [-List.map_map, embAt, nm, rn_rw, rn_ro, rn_map, rn_iter, rn_dead, renL, Val.ren, wfAll, wn_rw, wn_ro, wn_map, wn_iter, wn_dead, wfL, Val.wf, Env.get, initEnv, rC_ren, rC_wf])
        exact ⟨g', hs.trans (hs'.mono hac hdb), ⟨rfl, (hF.sws hs' hac hdb).done hso⟩, rfl⟩
      · have hkz : (((k : Nat) : Int) == 0) = false := beq_false_of_ne (by omega)
        (have g0 := e0; have g1 := decide_f hd; have g2 := hkz; refine GG3 ?_; clear g0 g1 g2)
        refine ei_mid (M := PqA g n c d wb wp) ?_ ?_
        · cases wb
          · refine GG0 ?_
            (first | ((with_reducible first | apply RunP.call | apply Run.call | apply Run.call0); iterate 2 (· (simp only [go_sem, reduceIte, Nat.reduceEqDiff]; (try with_reducible exact rfl)))) | ((with_reducible first | apply Run.callY | apply RunP.callY); iterate 3 (· (simp only [go_sem, reduceIte, Nat.reduceEqDiff]; (try with_reducible exact rfl)))))
            refine sound_use (brk_c g n c d hcd (by omega) (by omega)) [0] rfl (by decide) ?_ ?_ ?_ ?_ ?_; iterate 4 (· simp [-List.map_map, embAt, nm, rn_rw, rn_ro, rn_map, rn_iter, rn_dead, renL, Val.ren, wfAll, wn_rw, wn_ro, wn_map, wn_iter, wn_dead, wfL, Val.wf, Env.get, initEnv, Val.ren, rC_ren, rC_wf])
            rintro v C' ⟨g', hs', rfl, rfl⟩
            simp only [merge, place, after, nm, MG, Val.ren, renL, rn_rw, rn_ro, rn_map, rn_iter, rn_dead, reduceIte, Nat.reduceLT, Nat.reduceAdd, Nat.reduceSub, Nat.lt_irrefl, Nat.zero_lt_one, Nat.zero_lt_succ, rC_ren]
            have ek : ((k : Nat) : Int) - 1 = ((k - 1 : Nat) : Int) := by omega
            (have g0 := ek; refine GG1 ?_; clear g0)
            refine ⟨g', k - 1, by omega, hs', ?_⟩
            (refine anew [0] ?_ (by decide) ?_ ?_ ?_ rfl ?_ ?_ <;> simp [-List.map_map, embAt, nm, rn_rw, rn_ro, rn_map, rn_iter, rn_dead, renL, Val.ren, wfAll, wn_rw, wn_ro, wn_map, wn_iter, wn_dead, wfL, Val.wf, Env.get, initEnv, rC_ren, rC_wf])
          · refine GG0 ?_
            refine ⟨g, k, hk, .refl, ?_⟩
            (refine anew [0] ?_ (by decide) ?_ ?_ ?_ rfl ?_ ?_ <;> simp [-List.map_map, embAt, nm, rn_rw, rn_ro, rn_map, rn_iter, rn_dead, renL, Val.ren, wfAll, wn_rw, wn_ro, wn_map, wn_iter, wn_dead, wfL, Val.wf, Env.get, initEnv, rC_ren, rC_wf])
        · clear hkz hk0 hk
          rintro ρ H ⟨g1, k, hk, hs1, ha⟩
          refine ei_anewS ha ?_
          clear ha
          replace hlo := hlo.sws hs1 (Nat.le_refl _) (Nat.le_refl _)
          replace hF := hF.sws hs1 hac hdb
          replace hs := hs.trans (hs1.mono hac hdb)
          clear hs1 htg
          generalize g1 = g at hlo hF hs ⊢
          refine GG0 ?_
          (first | ((with_reducible first | apply RunP.call | apply Run.call | apply Run.call0); iterate 2 (· (simp only [go_sem, reduceIte, Nat.reduceEqDiff]; (try with_reducible exact rfl)))) | ((with_reducible first | apply Run.callY | apply RunP.callY); iterate 3 (· (simp only [go_sem, reduceIte, Nat.reduceEqDiff]; (try with_reducible exact rfl)))))
          refine sound_use (choose_c g n c d (by omega) (by omega) (by omega)) [0] rfl (by decide) ?_ ?_ ?_ ?_ ?_; iterate 4 (· simp [-List.map_map, embAt, nm, rn_rw, rn_ro, rn_map, rn_iter, rn_dead, renL, Val.ren, wfAll, wn_rw, wn_ro, wn_map, wn_iter, wn_dead, wfL, Val.wf, Env.get, initEnv, Val.ren, rC_ren, rC_wf])
          rintro v C' ⟨p, h, hp1, hp2, rfl, rfl⟩
          simp only [merge, place, after, nm, MG, Val.ren, renL, rn_rw, rn_ro, rn_map, rn_iter, rn_dead, reduceIte, Nat.reduceLT, Nat.reduceAdd, Nat.reduceSub, Nat.lt_irrefl, Nat.zero_lt_one, Nat.zero_lt_succ, rC_ren]
          refine GG0 ?_
          refine ei_mid (M := PqB g n c d k wb wp) ?_ ?_
          · by_cases h2 : h = 2
            · subst h2
              have hz : ((2 : Int) == 2) = true := rfl
              (have g0 := hz; refine GG1 ?_; clear g0)
              (first | ((with_reducible first | apply RunP.call | apply Run.call | apply Run.call0); iterate 2 (· (simp only [go_sem, reduceIte, Nat.reduceEqDiff]; (try with_reducible exact rfl)))) | ((with_reducible first | apply Run.callY | apply RunP.callY); iterate 3 (· (simp only [go_sem, reduceIte, Nat.reduceEqDiff]; (try with_reducible exact rfl)))))
              refine sound_use (rev_c g n c d hcd (by omega) (by omega)) [0] rfl (by decide) ?_ ?_ ?_ ?_ ?_; iterate 4 (· simp [-List.map_map, embAt, nm, rn_rw, rn_ro, rn_map, rn_iter, rn_dead, renL, Val.ren, wfAll, wn_rw, wn_ro, wn_map, wn_iter, wn_dead, wfL, Val.wf, Env.get, initEnv, Val.ren, rC_ren, rC_wf])
              rintro v C' ⟨g', hs', rfl, rfl⟩
              simp only [merge, place, after, nm, MG, Val.ren, renL, rn_rw, rn_ro, rn_map, rn_iter, rn_dead, reduceIte, Nat.reduceLT, Nat.reduceAdd, Nat.reduceSub, Nat.lt_irrefl, Nat.zero_lt_one, Nat.zero_lt_succ, rC_ren]
              have e1 : ((d : Nat) : Int) - 1 = ((d - 1 : Nat) : Int) := by omega
              have e2 : ((p : Nat) : Int) - ((c : Nat) : Int) = ((p - c : Nat) : Int) := by omega
              have e3 : ((d - 1 : Nat) : Int) - ((p - c : Nat) : Int) = ((d - 1 - (p - c) : Nat) : Int) := by omega
              (have g0 := e1; have g1 := e2; have g2 := e3; refine GG3 ?_; clear g0 g1 g2)
              refine ⟨g', d - 1 - (p - c), 1, by omega, by omega, hs', ?_⟩
              (refine anew [0] ?_ (by decide) ?_ ?_ ?_ rfl ?_ ?_ <;> simp [-List.map_map, embAt, nm, rn_rw, rn_ro, rn_map, rn_iter, rn_dead, renL, Val.ren, wfAll, wn_rw, wn_ro, wn_map, wn_iter, wn_dead, wfL, Val.wf, Env.get, initEnv, rC_ren, rC_wf])
            · have hz : (h == 2) = false := beq_false_of_ne h2
              (have g0 := hz; refine GG1 ?_; clear g0)
              refine ⟨g, p, h, hp1, hp2, .refl, ?_⟩
              (refine anew [0] ?_ (by decide) ?_ ?_ ?_ rfl ?_ ?_ <;> simp [-List.map_map, embAt, nm, rn_rw, rn_ro, rn_map, rn_iter, rn_dead, renL, Val.ren, wfAll, wn_rw, wn_ro, wn_map, wn_iter, wn_dead, wfL, Val.wf, Env.get, initEnv, rC_ren, rC_wf])
          · clear hp1 hp2
            rintro ρ H ⟨g1, p, h, hp1, hp2, hs1, ha⟩
            refine ei_anewS ha ?_
            clear ha
            replace hlo := hlo.sws hs1 (Nat.le_refl _) (Nat.le_refl _)
            replace hF := hF.sws hs1 hac hdb
            replace hs := hs.trans (hs1.mono hac hdb)
            clear hs1
            generalize g1 = g at hlo hF hs ⊢
            have htg := hs.tot ht hb
            have hl3 := rC_len g n
            refine Ee (ei_mid (M := fun ρ H => ∃ g4 : Row, Sws c d g g4 ∧ AnewS 1 [.rw (rC g4 n)] [(0, (.sl 0 0 n 3)), (1, .i .i64 (c : Nat)), (2, .i .i64 (d : Nat)), (3, .i .i64 (k : Nat)), (4, (.fn (.func 33) [] [])), (10, .b wb), (11, .b wp), (12, .i .i64 (d - c : Nat)), (13, .i .i64 (p : Nat))] ρ H) ?_ ?_)
            · cases wb
              · refine GG0 ?_
                refine ⟨g, .refl, ?_⟩
                (refine anew [0] ?_ (by decide) ?_ ?_ ?_ rfl ?_ ?_ <;> simp [-List.map_map, embAt, nm, rn_rw, rn_ro, rn_map, rn_iter, rn_dead, renL, Val.ren, wfAll, wn_rw, wn_ro, wn_map, wn_iter, wn_dead, wfL, Val.wf, Env.get, initEnv, rC_ren, rC_wf])
              · cases wp
                · refine GG0 ?_
                  refine ⟨g, .refl, ?_⟩
                  (refine anew [0] ?_ (by decide) ?_ ?_ ?_ rfl ?_ ?_ <;> simp [-List.map_map, embAt, nm, rn_rw, rn_ro, rn_map, rn_iter, rn_dead, renL, Val.ren, wfAll, wn_rw, wn_ro, wn_map, wn_iter, wn_dead, wfL, Val.wf, Env.get, initEnv, rC_ren, rC_wf])
                · by_cases h1 : h = 1
                  · subst h1
                    have hz : ((1 : Int) == 1) = true := rfl
                    (have g0 := hz; refine GG1 ?_; clear g0)
                    (first | ((with_reducible first | apply RunP.call | apply Run.call | apply Run.call0); iterate 2 (· (simp only [go_sem, reduceIte, Nat.reduceEqDiff]; (try with_reducible exact rfl)))) | ((with_reducible first | apply Run.callY | apply RunP.callY); iterate 3 (· (simp only [go_sem, reduceIte, Nat.reduceEqDiff]; (try with_reducible exact rfl)))))
                    refine sound_use (pins_c g n c d (by omega) (by omega) (by omega) htg hlo) [0] rfl (by decide) ?_ ?_ ?_ ?_ ?_; iterate 4 (· simp [-List.map_map, embAt, nm, rn_rw, rn_ro, rn_map, rn_iter, rn_dead, renL, Val.ren, wfAll, wn_rw, wn_ro, wn_map, wn_iter, wn_dead, wfL, Val.wf, Env.get, initEnv, Val.ren, rC_ren, rC_wf])
                    rintro v C' ⟨g4, hs4, ⟨cc, rfl, hcc⟩, rfl⟩
                    simp only [merge, place, after, nm, MG, Val.ren, renL, rn_rw, rn_ro, rn_map, rn_iter, rn_dead, reduceIte, Nat.reduceLT, Nat.reduceAdd, Nat.reduceSub, Nat.lt_irrefl, Nat.zero_lt_one, Nat.zero_lt_succ, rC_ren]
                    cases cc
                    · refine GG0 ?_
                      refine ⟨g4, hs4, ?_⟩
                      (refine anew [0] ?_ (by decide) ?_ ?_ ?_ rfl ?_ ?_ <;> simp [-List.map_map, embAt, nm, rn_rw, rn_ro, rn_map, rn_iter, rn_dead, renL, Val.ren, wfAll, wn_rw, wn_ro, wn_map, wn_iter, wn_dead, wfL, Val.wf, Env.get, initEnv, rC_ren, rC_wf])
                    · refine GG0 ?_
                      refine told [0] [.rw (rC g4 n)] (.tup []) ?_ (by decide) ?_ ?_ ?_ rfl ?_ ?_ ?_; iterate 6 (· simp [-List.map_map, embAt, nm, rn_rw, rn_ro, rn_map, rn_iter, rn_dead, renL, Val.ren, wfAll, wn_rw, wn_ro, wn_map, wn_iter, wn_dead, wfL, Val.wf, Env.get, initEnv, rC_ren, rC_wf])
                      exact ⟨g4, hs.trans (hs4.mono hac hdb), ⟨rfl, (hF.sws hs4 hac hdb).done (hcc rfl)⟩, rfl⟩
                  · have hz : (h == 1) = false := beq_false_of_ne h1
                    (have g0 := hz; refine GG1 ?_; clear g0)
                    refine ⟨g, .refl, ?_⟩
                    (refine anew [0] ?_ (by decide) ?_ ?_ ?_ rfl ?_ ?_ <;> simp [-List.map_map, embAt, nm, rn_rw, rn_ro, rn_map, rn_iter, rn_dead, renL, Val.ren, wfAll, wn_rw, wn_ro, wn_map, wn_iter, wn_dead, wfL, Val.wf, Env.get, initEnv, rC_ren, rC_wf])
            · rintro ρ H ⟨g4, hs4, ha⟩
              refine ei_anewS ha ?_
              clear ha htg hl3
              replace hlo := hlo.sws hs4 (Nat.le_refl _) (Nat.le_refl _)
              replace hF := hF.sws hs4 hac hdb
              replace hs := hs.trans (hs4.mono hac hdb)
              clear hs4
              generalize g4 = g at hlo hF hs ⊢
              have htg := hs.tot ht hb
              have hl3 := rC_len g n
              refine Ee (ei_mid (M := fun ρ H => AnewS 1 [.rw (rC g n)] [(0, (.sl 0 0 n 3)), (1, .i .i64 (c : Nat)), (2, .i .i64 (d : Nat)), (3, .i .i64 (k : Nat)), (4, (.fn (.func 33) [] [])), (10, .b wb), (11, .b wp), (12, .i .i64 (d - c : Nat)), (13, .i .i64 (p : Nat))] ρ H) ?_ ?_)
              · by_cases hc0 : c = 0
                · have hd2 : ¬ ((c : Nat) : Int) > 0 := by omega
                  (have g0 := decide_f hd2; refine GG1 ?_; clear g0)
                  (refine anew [0] ?_ (by decide) ?_ ?_ ?_ rfl ?_ ?_ <;> simp [-List.map_map, embAt, nm, rn_rw, rn_ro, rn_map, rn_iter, rn_dead, renL, Val.ren, wfAll, wn_rw, wn_ro, wn_map, wn_iter, wn_dead, wfL, Val.wf, Env.get, initEnv, rC_ren, rC_wf])
                · have hd2 : ((c : Nat) : Int) > 0 := by omega
                  have e1 : ((c : Nat) : Int) - 1 = ((c - 1 : Nat) : Int) := by omega
                  have hcn : c - 1 < n := by omega
                  have hpn : p < n := by omega
                  (have g0 := decide_t hd2; have g1 := e1; have g2 := fun qf => rC_get (f := qf) hcn; have g3 := fun qf => rC_get (f := qf) hpn; refine GG4 ?_; clear g0 g1 g2 g3)
                  (first | ((with_reducible first | apply RunP.call | apply Run.call | apply Run.call0); iterate 2 (· (simp only [go_sem, reduceIte, Nat.reduceEqDiff]; (try with_reducible exact rfl)))) | ((with_reducible first | apply Run.callY | apply RunP.callY); iterate 3 (· (simp only [go_sem, reduceIte, Nat.reduceEqDiff]; (try with_reducible exact rfl)))))
                  refine (cmp_ok _ _ _).mono ?_
                  rintro v H' ⟨rfl, rfl⟩
                  (first | refine And.intro rfl ?_ | refine And.intro trivial ?_ | skip)
                  have hcv : cV (g (c - 1)) (g p) < 0 := (cV_lt _ _).2 (hlo (by omega) p hp1 hp2)
                  (have g0 := decide_t hcv; refine GG1 ?_; clear g0)
                  (refine anew [0] ?_ (by decide) ?_ ?_ ?_ rfl ?_ ?_ <;> simp [-List.map_map, embAt, nm, rn_rw, rn_ro, rn_map, rn_iter, rn_dead, renL, Val.ren, wfAll, wn_rw, wn_ro, wn_map, wn_iter, wn_dead, wfL, Val.wf, Env.get, initEnv, rC_ren, rC_wf])
              · intro ρ H ha
                refine ei_anewS ha ?_
                clear ha
                refine GG0 ?_
                (first | ((with_reducible first | apply RunP.call | apply Run.call | apply Run.call0); iterate 2 (· (simp only [go_sem, reduceIte, Nat.reduceEqDiff]; (try with_reducible exact rfl)))) | ((with_reducible first | apply Run.callY | apply RunP.callY); iterate 3 (· (simp only [go_sem, reduceIte, Nat.reduceEqDiff]; (try with_reducible exact rfl)))))
                refine sound_use (part_c g n c d p hp1 hp2 (by omega) (by omega) htg) [0] rfl (by decide) ?_ ?_ ?_ ?_ ?_; iterate 4 (· simp [-List.map_map, embAt, nm, rn_rw, rn_ro, rn_map, rn_iter, rn_dead, renL, Val.ren, wfAll, wn_rw, wn_ro, wn_map, wn_iter, wn_dead, wfL, Val.wf, Env.get, initEnv, Val.ren, rC_ren, rC_wf])
                rintro v C' ⟨g2, hs2, ⟨m, al, rfl, hm1, hm2, hpf⟩, rfl⟩
                simp only [merge, place, after, nm, MG, Val.ren, renL, rn_rw, rn_ro, rn_map, rn_iter, rn_dead, reduceIte, Nat.reduceLT, Nat.reduceAdd, Nat.reduceSub, Nat.lt_irrefl, Nat.zero_lt_one, Nat.zero_lt_succ, rC_ren]
                have e1 : ((m : Nat) : Int) - ((c : Nat) : Int) = ((m - c : Nat) : Int) := by omega
                have e2 : ((d : Nat) : Int) - ((m : Nat) : Int) = ((d - m : Nat) : Int) := by omega
                have e3 : ((d - c : Nat) : Int) / 8 = (((d - c) / 8 : Nat) : Int) := by omega
                have e4 : ((m : Nat) : Int) + 1 = ((m + 1 : Nat) : Int) := by omega
                replace hlo := hlo.sws hs2 (Nat.le_refl _) (Nat.le_refl _)
                replace hF := hF.sws hs2 hac hdb
                replace hs := hs.trans (hs2.mono hac hdb)
                have htg2 := hs.tot ht hb
                by_cases hlr : m - c < d - m
                · have hd3 : ((m - c : Nat) : Int) < ((d - m : Nat) : Int) := by omega
                  (have g0 := e1; have g1 := e2; have g2 := e3; have g3 := decide_t hd3; refine GG4 ?_; clear g0 g1 g2 g3)
                  (first | ((with_reducible first | apply RunP.call | apply Run.call | apply Run.call0); iterate 2 (· (simp only [go_sem, reduceIte, Nat.reduceEqDiff]; (try with_reducible exact rfl)))) | ((with_reducible first | apply Run.callY | apply RunP.callY); iterate 3 (· (simp only [go_sem, reduceIte, Nat.reduceEqDiff]; (try with_reducible exact rfl)))))
                  refine sound_use (ih g2 c m k (by omega) (by omega) (by omega) hk htg2 (hlo.front (by omega))) [0] rfl (by decide) ?_ ?_ ?_ ?_ ?_; iterate 4 (· simp [-List.map_map, embAt, nm, rn_rw, rn_ro, rn_map, rn_iter, rn_dead, renL, Val.ren, wfAll, wn_rw, wn_ro, wn_map, wn_iter, wn_dead, wfL, Val.wf, Env.get, initEnv, Val.ren, rC_ren, rC_wf])
                  rintro v C' ⟨g3, hs3, ⟨rfl, hso⟩, rfl⟩
                  simp only [merge, place, after, nm, MG, Val.ren, renL, rn_rw, rn_ro, rn_map, rn_iter, rn_dead, reduceIte, Nat.reduceLT, Nat.reduceAdd, Nat.reduceSub, Nat.lt_irrefl, Nat.zero_lt_one, Nat.zero_lt_succ, rC_ren]
                  (have g0 := e4; refine GG1 ?_; clear g0)
                  refine ⟨d - (m + 1), by omega, m + 1, d, k, decide (((m - c : Nat) : Int) ≥ (((d - c) / 8 : Nat) : Int)), al, g3, by omega, by omega, hdb, rfl, hk, hs.trans (hs3.mono (by omega) (by omega)), (hpf.sws_l hs3).lo_r, (hF.sws (hs3.mono (Nat.le_refl _) (by omega)) hac hdb).left ltE_ord (hpf.sws_l hs3) hso, ?_⟩
                  (refine anew [0] ?_ (by decide) ?_ ?_ ?_ rfl ?_ ?_ <;> simp [-List.map_map, embAt, nm, rn_rw, rn_ro, rn_map, rn_iter, rn_dead, renL, Val.ren, wfAll, wn_rw, wn_ro, wn_map, wn_iter, wn_dead, wfL, Val.wf, Env.get, initEnv, rC_ren, rC_wf])
                · have hd3 : ¬ ((m - c : Nat) : Int) < ((d - m : Nat) : Int) := by omega
                  (have g0 := e1; have g1 := e2; have g2 := e3; have g3 := e4; have g4 := decide_f hd3; refine GG5 ?_; clear g0 g1 g2 g3 g4)
                  (first | ((with_reducible first | apply RunP.call | apply Run.call | apply Run.call0); iterate 2 (· (simp only [go_sem, reduceIte, Nat.reduceEqDiff]; (try with_reducible exact rfl)))) | ((with_reducible first | apply Run.callY | apply RunP.callY); iterate 3 (· (simp only [go_sem, reduceIte, Nat.reduceEqDiff]; (try with_reducible exact rfl)))))
                  refine sound_use (ih g2 (m + 1) d k (by omega) (by omega) (by omega) hk htg2 hpf.lo_r) [0] rfl (by decide) ?_ ?_ ?_ ?_ ?_; iterate 4 (· simp [-List.map_map, embAt, nm, rn_rw, rn_ro, rn_map, rn_iter, rn_dead, renL, Val.ren, wfAll, wn_rw, wn_ro, wn_map, wn_iter, wn_dead, wfL, Val.wf, Env.get, initEnv, Val.ren, rC_ren, rC_wf])
                  rintro v C' ⟨g3, hs3, ⟨rfl, hso⟩, rfl⟩
                  simp only [merge, place, after, nm, MG, Val.ren, renL, rn_rw, rn_ro, rn_map, rn_iter, rn_dead, reduceIte, Nat.reduceLT, Nat.reduceAdd, Nat.reduceSub, Nat.lt_irrefl, Nat.zero_lt_one, Nat.zero_lt_succ, rC_ren]
                  refine GG0 ?_
                  refine ⟨m - c, by omega, c, m, k, decide (((d - m : Nat) : Int) ≥ (((d - c) / 8 : Nat) : Int)), al, g3, hac, hm1, by omega, rfl, hk, hs.trans (hs3.mono (by omega) (by omega)), (hlo.sws hs3 (by omega) (Nat.le_refl _)).front (by omega), (hF.sws (hs3.mono (by omega) (Nat.le_refl _)) hac hdb).right ltE_ord (hpf.sws_r hs3) hso, ?_⟩
                  (refine anew [0] ?_ (by decide) ?_ ?_ ?_ rfl ?_ ?_ <;> simp [-List.map_map, embAt, nm, rn_rw, rn_ro, rn_map, rn_iter, rn_dead, renL, Val.ren, wfAll, wn_rw, wn_ro, wn_map, wn_iter, wn_dead, wfL, Val.wf, Env.get, initEnv, rC_ren, rC_wf])
end Go.Proofs.YtmdilnelogechaaDoor.IR
namespace Go.Proofs.YtmdilnelogechaaDoor.IR
open Go Go.Proofs.YtmdilnelogechaaDoor.Ev Go.Proofs.YtmdilnelogechaaDoor.Ev.Rb Go.Proofs.YtmdilnelogechaaDoor.Ev.So
set_option linter.unusedSimpArgs false
set_option linter.unusedVariables false
set_option maxHeartbeats 4000000
attribute [local go_sem] skipV nc0 nc1 nc2 nc3 bne_self_eq_false decide_true decide_false IOp.step Opd.ev Env.get initEnv Val.cells? Val.one List.all_cons List.all_nil Bool.and_true Bool.and_self Bool.true_and bin ints eqv Val.kindNo lenNo_s lenNo_nils lenNo_sl lenNo_nilm lenNo_m lenOf_s lenOf_nils lenOf_sl lenOf_nilm unary partsOf padTo List.foldl_cons List.foldl_nil wr_nil wr_step wr_zero List.set_cons_zero List.set_cons_succ List.map_cons List.map_nil z1 z2 Nat.succ_ne_zero List.length_cons List.length_nil List.cons_append List.nil_append List.append_nil List.getElem?_cons_zero List.getElem?_cons_succ List.getElem?_nil Option.map_some Option.map_none Nat.zero_add Nat.add_zero List.drop_zero List.drop_succ_cons List.take_succ_cons List.take_zero List.take_nil and_self and_true true_and Nat.le_refl Bool.not_true Bool.not_false Option.getD_some window Val.slen bnd resV resL RV.val Bool.false_eq_true BEq.rfl Bool.true_beq Bool.false_beq beq_true beq_false mk_one ite_true ite_false eqc ceqs ceq NOp.step isK eq_self
attribute [local go_sem] nat_toNat
theorem L2_le : ∀ k n, L2 k n ≤ k
  | 0, _ => Nat.le_refl _
  | k + 1, n => by simp only [L2]; split; omega; have := L2_le k (n / 2); omega
theorem sort_c (f : Row) (n : Nat) (hn : n < 128) (ht : Tot ltE f n) :
    SoundM Tryd.prog 1 32 [(.sl 0 0 n 3), (.fn (.func 33) [] [])] [.rw (rC f n)] (Sw f n 0 n fun v g => v = .tup [] ∧ Srt ltE g 0 n) := by
  refine sound_told (sound_func Tryd.func32 c32 rfl (by simp) ?_)
  simp only [e32, s32]
  refine GG0 ?_
  (first | ((with_reducible first | apply RunP.call | apply Run.call | apply Run.call0); iterate 2 (· (simp only [go_sem, reduceIte, Nat.reduceEqDiff]; (try with_reducible exact rfl)))) | ((with_reducible first | apply Run.callY | apply RunP.callY); iterate 3 (· (simp only [go_sem, reduceIte, Nat.reduceEqDiff]; (try with_reducible exact rfl)))))
  refine (len_ok (n := n) (by omega) _).mono ?_
  rintro v H' ⟨rfl, rfl⟩
  (first | refine And.intro rfl ?_ | refine And.intro trivial ?_ | skip)
  refine GG0 ?_
  have hk := L2_le 8 n
  (first | ((with_reducible first | apply RunP.call | apply Run.call | apply Run.call0); iterate 2 (· (simp only [go_sem, reduceIte, Nat.reduceEqDiff]; (try with_reducible exact rfl)))) | ((with_reducible first | apply Run.callY | apply RunP.callY); iterate 3 (· (simp only [go_sem, reduceIte, Nat.reduceEqDiff]; (try with_reducible exact rfl)))))
  refine sound_use (pdq_c n hn (n + 1) f 0 n (L2 8 n) (by omega) (by omega) (Nat.le_refl _) (by omega) ht (fun h => by omega)) [0] rfl (by decide) ?_ ?_ ?_ ?_ ?_; iterate 4 (· simp [-List.map_map, embAt, nm, rn_rw, rn_ro, rn_map, rn_iter, rn_dead, renL, Val.ren, wfAll, wn_rw, wn_ro, wn_map, wn_iter, wn_dead, wfL, Val.wf, Env.get, initEnv, Val.ren, rC_ren, rC_wf])
  rintro v C' ⟨g, hs, ⟨rfl, hso⟩, rfl⟩
  simp only [merge, place, after, nm, MG, Val.ren, renL, rn_rw, rn_ro, rn_map, rn_iter, rn_dead, reduceIte, Nat.reduceLT, Nat.reduceAdd, Nat.reduceSub, Nat.lt_irrefl, Nat.zero_lt_one, Nat.zero_lt_succ, rC_ren]
  refine GG0 ?_
  refine told [0] [.rw (rC g n)] (.tup []) ?_ (by decide) ?_ ?_ ?_ rfl ?_ ?_ ?_; iterate 6 (· simp [-List.map_map, embAt, nm, rn_rw, rn_ro, rn_map, rn_iter, rn_dead, renL, Val.ren, wfAll, wn_rw, wn_ro, wn_map, wn_iter, wn_dead, wfL, Val.wf, Env.get, initEnv, rC_ren, rC_wf])
  exact ⟨g, hs, ⟨rfl, hso⟩, rfl⟩
theorem rC_list (g : Row) : ∀ n, rC g n = rowC ((List.range n).map g)
  | 0 => rfl
  | n + 1 => by
    show rC g n ++ itC (g n) = _
    rw [rC_list g n, List.range_succ, List.map_append]
    exact rowC_snoc _ _
def nth (l : List (Int × Int × Int)) : Row := fun i => l.getD i (0, 0, 0)
theorem nth_list (l : List (Int × Int × Int)) : (List.range l.length).map (nth l) = l := by
  apply List.ext_getElem
  · simp
  · intro i h1 h2
    simp [nth, h2]
theorem nth_tot {l : List (Int × Int × Int)} (h : (l.map ekey).Nodup) : Tot ltE (nth l) l.length := by
  intro i j hi hj hij
  have e : ∀ k, k < l.length → nth l k = l[k]! := fun k hk => by simp [nth, hk]
  by_cases c : klt (ekey (nth l i)) (ekey (nth l j))
  · exact .inl c
  · by_cases c' : klt (ekey (nth l j)) (ekey (nth l i))
    · exact .inr c'
    · have he := klt_eq c c'
      exfalso
      have h1 : nth l i = l[i] := by simp [nth, hi]
      have h2 : nth l j = l[j] := by simp [nth, hj]
      rw [h1, h2] at he
      have key := List.pairwise_iff_getElem.1 h
      rcases Nat.lt_or_gt_of_ne hij with c | c
      · exact absurd (by rw [List.getElem_map, List.getElem_map]; exact he) (key i j (by simpa using hi) (by simpa using hj) c)
      · exact absurd (by rw [List.getElem_map, List.getElem_map]; exact he.symm) (key j i (by simpa using hj) (by simpa using hi) c)
theorem sorted_row {g : Row} {n : Nat} (h : Srt ltE g 0 n) : Sorted ((List.range n).map g) := by
  refine List.pairwise_map.2 (List.pairwise_lt_range.imp_of_mem ?_)
  intro a b _ hb hab
  exact h a b (Nat.zero_le _) hab (List.mem_range.1 hb)
def ft5 : FT := ftOf [(50, e50, k50), (70, e70, k70), (71, e71, k71), (32, e32, k32), (49, e49, k49), (62, e62, k62)]
theorem ft5_ok : FtOk Tryd.prog ft5 := ftOf_ok (by
  intro x hx
  simp only [List.mem_cons, List.not_mem_nil, or_false] at hx
  rcases hx with rfl | rfl | rfl | rfl | rfl | rfl
  · exact ⟨_, _, Tryd.func50, c50⟩
  · exact ⟨_, _, Tryd.func70, c70⟩
  · exact ⟨_, _, Tryd.func71, c71⟩
  · exact ⟨_, _, Tryd.func32, c32⟩
  · exact ⟨_, _, Tryd.func49, c49⟩
  · exact ⟨_, _, Tryd.func62, c62⟩)
theorem nil_run : (call ft5 ext 60 20 49 [.nils, .i .i64 0, .i .i64 0, .i .i64 0, (.fn (.func 33) [] [])] []).map (·.1) = some (.tup []) := by kernel_rfl
theorem sortnil_c : SoundM Tryd.prog 1 32 [.nils, (.fn (.func 33) [] [])] [.dead] (fun v H => v = .tup [] ∧ H = [.dead]) := by
  refine sound_told (sound_func Tryd.func32 c32 rfl (by simp) ?_)
  simp only [e32, s32]
  refine GG0 ?_
  (first | ((with_reducible first | apply RunP.call | apply Run.call | apply Run.call0); iterate 2 (· (simp only [go_sem, reduceIte, Nat.reduceEqDiff]; (try with_reducible exact rfl)))) | ((with_reducible first | apply Run.callY | apply RunP.callY); iterate 3 (· (simp only [go_sem, reduceIte, Nat.reduceEqDiff]; (try with_reducible exact rfl)))))
  refine (len_ok (n := 0) (by omega) _).mono ?_
  rintro v H' ⟨rfl, rfl⟩
  (first | refine And.intro rfl ?_ | refine And.intro trivial ?_ | skip)
  refine GG0 ?_
  (first | ((with_reducible first | apply RunP.call | apply Run.call | apply Run.call0); iterate 2 (· (simp only [go_sem, reduceIte, Nat.reduceEqDiff]; (try with_reducible exact rfl)))) | ((with_reducible first | apply Run.callY | apply RunP.callY); iterate 3 (· (simp only [go_sem, reduceIte, Nat.reduceEqDiff]; (try with_reducible exact rfl)))))
  refine (sound_run ft5_ok ext_ok rfl rfl nil_run _).mono ?_
  rintro v H' ⟨rfl, rfl⟩
  (first | refine And.intro rfl ?_ | refine And.intro trivial ?_ | skip)
  refine GG0 ?_
  refine told [0] [.dead] (.tup []) ?_ (by decide) ?_ ?_ ?_ rfl ?_ ?_ ?_; iterate 6 (· simp [-List.map_map, embAt, nm, rn_rw, rn_ro, rn_map, rn_iter, rn_dead, renL, Val.ren, wfAll, wn_rw, wn_ro, wn_map, wn_iter, wn_dead, wfL, Val.wf, Env.get, initEnv, rC_ren, rC_wf])
  exact ⟨rfl, rfl⟩
def SortedAs (l : List (Int × Int × Int)) (o : GO) (v : Val) (H : Heap) : Prop := ∃ l' : List (Int × Int × Int), l'.Perm l ∧ Sorted l' ∧ v = .tup [] ∧ H = [gO o (rowC l')]
theorem sortl_c (l : List (Int × Int × Int)) (o : GO) (ho : o = none ∨ o = gNew) (hno : o = none → l.length = 0) (hn : l.length < 128) (hd : (l.map ekey).Nodup) :
    SoundM Tryd.prog 1 32 [gV o 0 l.length 3, (.fn (.func 33) [] [])] [gO o (rowC l)] (SortedAs l o) := by
  rcases ho with rfl | rfl
  · have hl : l = [] := List.length_eq_zero_iff.1 (hno rfl)
    subst hl
    refine sortnil_c.mono ?_
    rintro v H' ⟨rfl, rfl⟩
    exact ⟨[], .refl _, .nil, rfl, rfl⟩
  · have e : rC (nth l) l.length = rowC l := by rw [rC_list, nth_list]
    have := sort_c (nth l) l.length hn (nth_tot hd)
    rw [e] at this
    rw [gV_new, gO_new]
    refine this.mono ?_
    rintro v H' ⟨g, hs, ⟨rfl, hso⟩, rfl⟩
    have hp := hs.perm (Nat.le_refl _)
    rw [nth_list] at hp
    exact ⟨_, hp, sorted_row hso, rfl, by rw [gO_new, rC_list]⟩
end Go.Proofs.YtmdilnelogechaaDoor.IR
