/- This text of a proof shows: a row that is nearly in order (short rows: nothing is shifted). -/
import Derived.Test.YtjahkgfihdngkaaGg
import Derived.Test.YtjahkgfihdngkaaSf
set_option linter.unusedVariables false
set_option linter.unusedSimpArgs false
set_option linter.constructorNameAsVariable false
namespace Go.Proofs.Ytjahkgfihdngkaa.IR
open Go Go.Proofs.Ytjahkgfihdngkaa.Ev Go.Proofs.Ytjahkgfihdngkaa.Ev.Rb Go.Proofs.Ytjahkgfihdngkaa.Ev.So
set_option linter.unusedSimpArgs false
set_option linter.unusedVariables false
set_option maxHeartbeats 4000000
attribute [local go_sem] skipV nc0 nc1 nc2 nc3 bne_self_eq_false decide_true decide_false IOp.step Opd.ev Env.get initEnv Val.cells? Val.one List.all_cons List.all_nil Bool.and_true Bool.and_self Bool.true_and bin ints eqv Val.kindNo lenNo_s lenNo_nils lenNo_sl lenNo_nilm lenNo_m lenOf_s lenOf_nils lenOf_sl lenOf_nilm unary partsOf padTo List.foldl_cons List.foldl_nil wr_nil wr_step wr_zero List.set_cons_zero List.set_cons_succ List.map_cons List.map_nil z1 z2 Nat.succ_ne_zero List.length_cons List.length_nil List.cons_append List.nil_append List.append_nil List.getElem?_cons_zero List.getElem?_cons_succ List.getElem?_nil Option.map_some Option.map_none Nat.zero_add Nat.add_zero List.drop_zero List.drop_succ_cons List.take_succ_cons List.take_zero List.take_nil and_self and_true true_and Nat.le_refl Bool.not_true Bool.not_false Option.getD_some window Val.slen bnd resV resL RV.val Bool.false_eq_true BEq.rfl Bool.true_beq Bool.false_beq beq_true beq_false mk_one ite_true ite_false eqc ceqs ceq NOp.step isK eq_self
attribute [local go_sem] nat_toNat en_all en3
def PI1 (f : Row) (n a b : Nat) (k : Nat) (ρ : Env) (H : Heap) : Prop :=
  ∃ i : Nat, a < i ∧ i ≤ b ∧ k = b - i ∧ Srt ltE f a i ∧ AnewS 1 [.rw (rC f n)] [(0, (.sl 0 0 n 3)), (1, .i .i64 (a : Nat)), (2, .i .i64 (b : Nat)), (3, (.fn (.func 37) [] [])), (8, .b false), (9, .i .i64 (i : Nat)), (10, .i .i64 0)] ρ H
def PI0 (f : Row) (n a b : Nat) (k : Nat) (ρ : Env) (H : Heap) : Prop :=
  k = 0 ∧ AnewS 1 [.rw (rC f n)] [(0, (.sl 0 0 n 3)), (1, .i .i64 (a : Nat)), (2, .i .i64 (b : Nat)), (3, (.fn (.func 37) [] [])), (8, .b false), (9, .i .i64 (a + 1 : Nat)), (10, .i .i64 0)] ρ H
theorem srt_inc {f : Row} {n a i : Nat} (h : Srt ltE f a i) (hai : a < i) (hin : i < n) (ht : Tot ltE f n) (hn : ¬ ltE (f i) (f (i - 1))) : Srt ltE f a (i + 1) := by
  have h1 : ltE (f (i - 1)) (f i) := (ht i (i - 1) hin (by omega) (by omega)).resolve_left hn
  intro p q p1 p2 p3
  by_cases e : q = i
  · subst e
    by_cases e2 : p = q - 1
    · subst e2; exact h1
    · exact ltE_ord.trans (h p (q - 1) p1 (by omega) (by omega)) h1
  · exact h p q p1 p2 (by omega)
theorem pins_c (f : Row) (n a b : Nat) (hab : a < b) (hb : b ≤ n) (hn : n < 50) (ht : Tot ltE f n) :
    SoundM Try.prog 1 59 [(.sl 0 0 n 3), .i .i64 (a : Nat), .i .i64 (b : Nat), (.fn (.func 37) [] [])] [.rw (rC f n)] (fun v H => ∃ c : Bool, v = .b c ∧ (c = true → Srt ltE f a b) ∧ H = [.rw (rC f n)]) := by
  refine sound_told (sound_func Try.func59 c59 rfl (by simp) ?_)
  have hl3 := rC_len f n
  simp only [e59]
  have ei : ((a : Nat) : Int) + 1 = ((a + 1 : Nat) : Int) := by omega
  (have g0 := ei; refine GG1 ?_; clear g0)
  refine ei_loop (PI0 f n a b) (n := 0) ?_ ?_
  · refine ⟨rfl, ?_⟩
    (refine anew [0] ?_ (by decide) ?_ ?_ ?_ rfl ?_ ?_ <;> simp [-List.map_map, embAt, nm, rn_rw, rn_ro, rn_map, rn_iter, rn_dead, renL, Val.ren, wfAll, wn_rw, wn_ro, wn_map, wn_iter, wn_dead, wfL, Val.wf, Env.get, initEnv, rC_ren, rC_wf])
  · rintro k ρ H ⟨rfl, ha⟩
    refine ei_anewS ha ?_
    clear ha
    refine GG0 ?_
    refine ei_loop (PI1 f n a b) (n := b - (a + 1)) ?_ ?_
    · refine ⟨a + 1, by omega, by omega, rfl, .small (by omega), ?_⟩
      (refine anew [0] ?_ (by decide) ?_ ?_ ?_ rfl ?_ ?_ <;> simp [-List.map_map, embAt, nm, rn_rw, rn_ro, rn_map, rn_iter, rn_dead, renL, Val.ren, wfAll, wn_rw, wn_ro, wn_map, wn_iter, wn_dead, wfL, Val.wf, Env.get, initEnv, rC_ren, rC_wf])
    · rintro k ρ H ⟨i, hi1, hi2, rfl, hs, ha⟩
      refine ei_anewS ha ?_
      clear ha
      by_cases hib : i < b
      · have hd : ((i : Nat) : Int) < ((b : Nat) : Int) := by omega
        have e1 : ((i : Nat) : Int) - 1 = ((i - 1 : Nat) : Int) := by omega
        have hin : i < n := by omega
        have hin1 : i - 1 < n := by omega
        have e2 : ((i : Nat) : Int) + 1 = ((i + 1 : Nat) : Int) := by omega
        (have g0 := decide_t hd; have g1 := e1; have g2 := fun qf => rC_get (f := qf) hin; have g3 := fun qf => rC_get (f := qf) hin1; refine GG4 ?_; clear g0 g1 g2 g3)
        (first | ((with_reducible first | apply RunP.call | apply Run.call | apply Run.call0); iterate 2 (· (simp only [go_sem, reduceIte, Nat.reduceEqDiff]; (try with_reducible exact rfl)))) | ((with_reducible first | apply Run.callY | apply RunP.callY); iterate 3 (· (simp only [go_sem, reduceIte, Nat.reduceEqDiff]; (try with_reducible exact rfl)))))
        refine (cmp_ok _ _ _).mono ?_
        rintro v H' ⟨rfl, rfl⟩
        (first | refine And.intro rfl ?_ | refine And.intro trivial ?_ | skip)
        by_cases hc : ltE (f i) (f (i - 1))
        · have hcv : cV (f i) (f (i - 1)) < 0 := (cV_lt _ _).2 hc
          have hd2 : (((i : Nat) : Int) == ((b : Nat) : Int)) = false := beq_false_of_ne (by omega)
          obtain ⟨l, rfl⟩ : ∃ l, b = a + l := ⟨b - a, by omega⟩
          have e3 : ((a + l : Nat) : Int) - ((a : Nat) : Int) = ((l : Nat) : Int) := by omega
          have hd3 : ((l : Nat) : Int) < 50 := by omega
          (have g0 := decide_t hcv; have g1 := hd2; have g2 := e3; have g3 := decide_t hd3; refine GG4 ?_; clear g0 g1 g2 g3)
          refine told [0] [.rw (rC f n)] (.b false) ?_ (by decide) ?_ ?_ ?_ rfl ?_ ?_ ?_; iterate 6 (· simp [-List.map_map, embAt, nm, rn_rw, rn_ro, rn_map, rn_iter, rn_dead, renL, Val.ren, wfAll, wn_rw, wn_ro, wn_map, wn_iter, wn_dead, wfL, Val.wf, Env.get, initEnv, rC_ren, rC_wf])
          exact ⟨false, rfl, (fun h => nomatch h), rfl⟩
        · have hcv : ¬ cV (f i) (f (i - 1)) < 0 := fun h => hc ((cV_lt _ _).1 h)
          (have g0 := decide_f hcv; have g1 := e2; refine GG2 ?_; clear g0 g1)
          refine ⟨b - (i + 1), by omega, i + 1, by omega, by omega, rfl, srt_inc hs hi1 hin ht hc, ?_⟩
          (refine anew [0] ?_ (by decide) ?_ ?_ ?_ rfl ?_ ?_ <;> simp [-List.map_map, embAt, nm, rn_rw, rn_ro, rn_map, rn_iter, rn_dead, renL, Val.ren, wfAll, wn_rw, wn_ro, wn_map, wn_iter, wn_dead, wfL, Val.wf, Env.get, initEnv, rC_ren, rC_wf])
      · have hd : ¬ ((i : Nat) : Int) < ((b : Nat) : Int) := by omega
        obtain rfl : i = b := by omega
        have hd2 : (((i : Nat) : Int) == ((i : Nat) : Int)) = true := beq_self_eq_true _
        (have g0 := decide_f hd; have g1 := hd2; refine GG2 ?_; clear g0 g1)
        refine told [0] [.rw (rC f n)] (.b true) ?_ (by decide) ?_ ?_ ?_ rfl ?_ ?_ ?_; iterate 6 (· simp [-List.map_map, embAt, nm, rn_rw, rn_ro, rn_map, rn_iter, rn_dead, renL, Val.ren, wfAll, wn_rw, wn_ro, wn_map, wn_iter, wn_dead, wfL, Val.wf, Env.get, initEnv, rC_ren, rC_wf])
        exact ⟨true, rfl, fun _ => hs, rfl⟩
end Go.Proofs.Ytjahkgfihdngkaa.IR
