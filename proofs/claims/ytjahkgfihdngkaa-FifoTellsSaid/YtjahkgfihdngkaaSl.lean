/- This text of a proof shows: the document's queue: Less, New, Head, All; two lists compared. -/
import Derived.Test.YtjahkgfihdngkaaGg
import Derived.Test.YtjahkgfihdngkaaSk
set_option linter.unusedVariables false
set_option linter.unusedSimpArgs false
set_option linter.constructorNameAsVariable false
namespace Go.Proofs.Ytjahkgfihdngkaa.IR
open Go Go.Proofs.Ytjahkgfihdngkaa.Ev Go.Proofs.Ytjahkgfihdngkaa.Ev.Rb
set_option linter.unusedSimpArgs false
set_option linter.unusedVariables false
set_option maxHeartbeats 4000000
attribute [local go_sem] skipV nc0 nc1 nc2 nc3 bne_self_eq_false decide_true decide_false IOp.step Opd.ev Env.get initEnv Val.cells? Val.one List.all_cons List.all_nil Bool.and_true Bool.and_self Bool.true_and bin ints eqv Val.kindNo lenNo_s lenNo_nils lenNo_sl lenNo_nilm lenNo_m lenOf_s lenOf_nils lenOf_sl lenOf_nilm unary partsOf padTo List.foldl_cons List.foldl_nil wr_nil wr_step wr_zero List.set_cons_zero List.set_cons_succ List.map_cons List.map_nil z1 z2 Nat.succ_ne_zero List.length_cons List.length_nil List.cons_append List.nil_append List.append_nil List.getElem?_cons_zero List.getElem?_cons_succ List.getElem?_nil Option.map_some Option.map_none Nat.zero_add Nat.add_zero List.drop_zero List.drop_succ_cons List.take_succ_cons List.take_zero List.take_nil and_self and_true true_and Nat.le_refl Bool.not_true Bool.not_false Option.getD_some window Val.slen bnd resV resL RV.val Bool.false_eq_true BEq.rfl Bool.true_beq Bool.false_beq beq_true beq_false mk_one ite_true ite_false eqc ceqs ceq NOp.step isK eq_self
attribute [local go_sem] Nat.mul_one gV_no
attribute [local go_sem] nat_toNat
theorem rless_c (a b c d : Int) : SoundM Try.prog 0 30 [.agg [.i .u64 a, .i .u64 b], .agg [.i .u64 c, .i .u64 d]] [] (fun v H => v = .b (decide (klt (a, b) (c, d))) ∧ H = []) := by
  refine sound_told (sound_func Try.func30 c30 rfl (by simp) ?_)
  simp only [e30]
  have key : ∀ x : Bool, x = decide (klt (a, b) (c, d)) → Ev.Told 0 (fun v H => v = .b (decide (klt (a, b) (c, d))) ∧ H = []) (.b x) [.rw [.i .u64 a, .i .u64 b], .rw [.i .u64 c, .i .u64 d]] := by
    rintro x rfl
    refine told [] [] (.b (decide (klt (a, b) (c, d)))) ?_ (by decide) ?_ ?_ ?_ rfl ?_ ?_ ?_; iterate 6 (· simp [-List.map_map, embAt, nm, rn_rw, rn_ro, rn_map, rn_iter, rn_dead, renL, Val.ren, wfAll, wn_rw, wn_ro, wn_map, wn_iter, wn_dead, wfL, Val.wf, Env.get, initEnv, Val.ren])
    exact ⟨rfl, rfl⟩
  by_cases h2 : a = c
  · have h2b : (a != c) = false := by simp [h2]
    (have g0 := h2b; refine GG1 ?_; clear g0)
    refine key _ ?_
    subst h2
    exact decide_eq_decide.2 ⟨fun h => .inr ⟨rfl, h⟩, fun h => by rcases h with h | h; exact absurd h (Int.lt_irrefl _); exact h.2⟩
  · have h2b : (a != c) = true := by simpa using h2
    (have g0 := h2b; refine GG1 ?_; clear g0)
    refine key _ ?_
    exact decide_eq_decide.2 ⟨fun h => .inl h, fun h => by rcases h with h | h; exact h; exact absurd h.1 h2⟩
theorem rless_ok (a b c d : Int) (H : Heap) : SoundCall Try.prog 30 [.agg [.i .u64 a, .i .u64 b], .agg [.i .u64 c, .i .u64 d]] H (fun v H' => v = .b (decide (klt (a, b) (c, d))) ∧ H' = H) :=
  sound_alone (rless_c a b c d) (by simp [wfL, Val.wf]) (fun ι => by simp [renL, Val.ren]) (fun ι => rfl) H
theorem rnew_c (n : Int) : SoundM Try.prog 0 10 [.i .i64 n] [] (fun v H => v = .tup [.agg [.i .i64 n, .nils], .b (decide (1 ≤ n ∧ n ≤ 65536))] ∧ H = []) := by
  refine sound_told (sound_func Try.func10 c10 rfl (by simp) ?_)
  simp only [e10]
  have key : ∀ x : Bool, x = decide (1 ≤ n ∧ n ≤ 65536) → Ev.Told 0 (fun v H => v = .tup [.agg [.i .i64 n, .nils], .b (decide (1 ≤ n ∧ n ≤ 65536))] ∧ H = []) (.tup [.agg [.i .i64 n, .nils], .b x]) [.rw [.i .i64 n, .nils]] := by
    rintro x rfl
    refine told [] [] (.tup [.agg [.i .i64 n, .nils], .b (decide (1 ≤ n ∧ n ≤ 65536))]) ?_ (by decide) ?_ ?_ ?_ rfl ?_ ?_ ?_; iterate 6 (· simp [-List.map_map, embAt, nm, rn_rw, rn_ro, rn_map, rn_iter, rn_dead, renL, Val.ren, wfAll, wn_rw, wn_ro, wn_map, wn_iter, wn_dead, wfL, Val.wf, Env.get, initEnv, Val.ren])
    exact ⟨rfl, rfl⟩
  by_cases h1 : n ≥ 1
  · (have g0 := decide_t h1; refine GG1 ?_; clear g0)
    exact key _ (decide_eq_decide.2 ⟨fun h => ⟨h1, h⟩, fun h => h.2⟩)
  · (have g0 := decide_f h1; refine GG1 ?_; clear g0)
    exact key false (decide_f (show ¬ (1 ≤ n ∧ n ≤ 65536) from fun h => h1 h.1)).symm
def rV (r : Int) (o : GO) (id n : Nat) : Val := .agg [.i .i64 r, gV o id n 3]
theorem rhead_c (r : Int) (o : GO) (M : List (Int × Int × Int)) (go : gC o) (no : o = none → M.length = 0) (hM : M.length ≤ 100000) :
    SoundM Try.prog 1 17 [rV r o 0 M.length] [gO o (rowC M)] (fun v H => v = headV M ∧ H = [gO o (rowC M)]) := by
  refine sound_told (sound_func Try.func17 c17 rfl (by simp) ?_)
  simp only [e17, rV]
  rcases o with _ | ⟨j, k⟩
  · obtain rfl : M = [] := List.length_eq_zero_iff.1 (no rfl)
    simp only [gV_none, gO_none]
    refine GG0 ?_
    refine told [0] [gO none (rowC [])] (headV []) ?_ (by decide) ?_ ?_ ?_ rfl ?_ ?_ ?_; iterate 6 (· simp [-List.map_map, embAt, nm, rn_rw, rn_ro, rn_map, rn_iter, rn_dead, renL, Val.ren, wfAll, wn_rw, wn_ro, wn_map, wn_iter, wn_dead, wfL, Val.wf, Env.get, initEnv, gO_none, headV])
    exact ⟨rfl, rfl⟩
  · simp only [gV_some, gO_some]
    rcases M with _ | ⟨x, M⟩
    · refine GG0 ?_
      refine told [0] [gO (some (j, k)) (rowC [])] (headV []) ?_ (by decide) ?_ ?_ ?_ rfl ?_ ?_ ?_; iterate 6 (· simp [-List.map_map, embAt, nm, rn_rw, rn_ro, rn_map, rn_iter, rn_dead, renL, Val.ren, wfAll, wn_rw, wn_ro, wn_map, wn_iter, wn_dead, wfL, Val.wf, Env.get, initEnv, gV_some, gO_some, renL_append, wfL_append, rowC_ren, rowC_wf, go.1, go.2.1, go.2.2.1, go.2.2.2, gOh_ren, gOh_wf, gV_ren, gV_wf, headV])
      exact ⟨rfl, rfl⟩
    · have hz : (((M.length + 1 : Nat) : Int) == 0) = false := beq_false_of_ne (by omega)
      obtain ⟨w1, w2, w3, w4⟩ := row_win (l := x :: M) (i := 0) rfl j k
      have w5 : (j ++ (rowC (x :: M) ++ k))[j.length]? = some (.i .u64 x.2.2) := by simp [rowC, itC]
      simp only [Nat.zero_mul, Nat.add_zero] at w1 w2 w3 w4
      simp only [List.length_cons]
      (have g0 := hz; have g1 := w2; have g2 := w5; refine GG3 ?_; clear g0 g1 g2)
      refine told [0] [gO (some (j, k)) (rowC (x :: M))] (headV (x :: M)) ?_ (by decide) ?_ ?_ ?_ rfl ?_ ?_ ?_; iterate 6 (· simp [-List.map_map, embAt, nm, rn_rw, rn_ro, rn_map, rn_iter, rn_dead, renL, Val.ren, wfAll, wn_rw, wn_ro, wn_map, wn_iter, wn_dead, wfL, Val.wf, Env.get, initEnv, gV_some, gO_some, renL_append, wfL_append, rowC_ren, rowC_wf, go.1, go.2.1, go.2.2.1, go.2.2.2, gOh_ren, gOh_wf, gV_ren, gV_wf, headV])
      exact ⟨rfl, rfl⟩
def RAll (M : List (Int × Int × Int)) (o : GO) (v : Val) (H : Heap) : Prop := ∃ o' : GO, (o' = none ∨ o' = gNew) ∧ (o' = none → M.length = 0) ∧ v = gV o' 1 M.length 1 ∧ H = [gO o (rowC M), gO o' (hs M)]
def RA1 (r : Int) (j k : List Val) (M : List (Int × Int × Int)) (n : Nat) (ρ : Env) (H : Heap) : Prop :=
  ∃ (i : Nat) (o2 : GO), i ≤ M.length ∧ n = M.length - i ∧ (o2 = none ∨ o2 = gNew) ∧ (o2 = none → i = 0) ∧
    AnewS 1 [.rw (j ++ (rowC M ++ k)), .rw [.i .i64 r, .sl 0 j.length M.length 3], gO o2 (hs (M.take i))] [(1, .p 1 0), (3, gV o2 2 i 1), (4, .i .i64 (i : Nat))] ρ H
theorem rall_c (r : Int) (o : GO) (M : List (Int × Int × Int)) (go : gC o) (no : o = none → M.length = 0) (hM : M.length ≤ 100000) :
    SoundM Try.prog 1 21 [rV r o 0 M.length] [gO o (rowC M)] (RAll M o) := by
  refine sound_told (sound_func Try.func21 c21 rfl (by simp) ?_)
  simp only [e21, rV]
  rcases o with _ | ⟨j, k⟩
  · obtain rfl : M = [] := List.length_eq_zero_iff.1 (no rfl)
    simp only [gV_none, gO_none]
    refine ei_pad ?_
    simp only [List.cons_append, List.nil_append]
    refine GG0 ?_
    refine ei_loop (fun n ρ H => n = 0 ∧ AnewS 1 [.dead, .dead, .rw [.i .i64 r, .nils]] [(1, .p 2 0), (3, .nils), (4, .i .i64 0)] ρ H) (n := 0) ?_ ?_
    · refine ⟨rfl, ?_⟩
      (refine anew [0, 1, 2] ?_ (by decide) ?_ ?_ ?_ rfl ?_ ?_ <;> simp [-List.map_map, embAt, nm, rn_rw, rn_ro, rn_map, rn_iter, rn_dead, renL, Val.ren, wfAll, wn_rw, wn_ro, wn_map, wn_iter, wn_dead, wfL, Val.wf, Env.get, initEnv, gV_ren])
    · rintro n ρ H ⟨rfl, ha⟩
      refine ei_anewS ha ?_
      refine GG0 ?_
      refine told [0, 1] [.dead, .dead] .nils ?_ (by decide) ?_ ?_ ?_ rfl ?_ ?_ ?_; iterate 6 (· simp [-List.map_map, embAt, nm, rn_rw, rn_ro, rn_map, rn_iter, rn_dead, renL, Val.ren, wfAll, wn_rw, wn_ro, wn_map, wn_iter, wn_dead, wfL, Val.wf, Env.get, initEnv, gV_ren])
      exact ⟨none, .inl rfl, fun _ => rfl, rfl, rfl⟩
  simp only [gV_some, gO_some]
  refine GG0 ?_
  refine ei_pad ?_
  simp only [List.cons_append, List.nil_append]
  refine ei_loop (RA1 r j k M) (n := M.length) ?_ ?_
  · refine ⟨0, none, by omega, by omega, .inl rfl, fun _ => rfl, ?_⟩
    simp only [gO_none, gV_none]
    (refine anew [0, 1, 2] ?_ (by decide) ?_ ?_ ?_ rfl ?_ ?_ <;> simp [-List.map_map, embAt, nm, rn_rw, rn_ro, rn_map, rn_iter, rn_dead, renL, Val.ren, wfAll, wn_rw, wn_ro, wn_map, wn_iter, wn_dead, wfL, Val.wf, Env.get, initEnv, gV_some, gO_some, renL_append, wfL_append, rowC_ren, rowC_wf, go.1, go.2.1, go.2.2.1, go.2.2.2, gOh_ren, gOh_wf, gV_ren, gV_wf])
  · rintro n ρ H ⟨i, o2, hi, rfl, ho2, no2, ha⟩
    refine ei_anewS ha ?_
    clear ha
    have go2 := gC_of ho2
    by_cases h1 : i = M.length
    · subst h1
      have hz : ¬ (((M.length : Nat) : Int) < ((M.length : Nat) : Int)) := by omega
      simp only [List.take_length]
      (have g0 := decide_f hz; refine GG1 ?_; clear g0)
      refine told [0, 2] [gO (some (j, k)) (rowC M), gO o2 (hs M)] (gV o2 1 M.length 1) ?_ (by decide) ?_ ?_ ?_ rfl ?_ ?_ ?_; iterate 6 (· simp [-List.map_map, embAt, nm, rn_rw, rn_ro, rn_map, rn_iter, rn_dead, renL, Val.ren, wfAll, wn_rw, wn_ro, wn_map, wn_iter, wn_dead, wfL, Val.wf, Env.get, initEnv, gV_some, gO_some, renL_append, wfL_append, rowC_ren, rowC_wf, go.1, go.2.1, go.2.2.1, go.2.2.2, gOh_ren, gOh_wf, gV_ren, gV_wf, go2])
      exact ⟨o2, ho2, no2, rfl, rfl⟩
    · have hlt : i < M.length := by omega
      have hz : (((i : Nat) : Int) < ((M.length : Nat) : Int)) := by omega
      obtain ⟨x, hx⟩ : ∃ x, M[i]? = some x := ⟨M[i], List.getElem?_eq_getElem hlt⟩
      obtain ⟨w1, w2, w3, w4⟩ := row_win hx j k
      have w5 : (j ++ (rowC M ++ k))[j.length + i * 3]? = some (.i .u64 x.2.2) := by
        have := congrArg (fun l => l[0]?) w1
        rw [List.getElem?_append_right (Nat.le_add_right _ _), Nat.add_sub_cancel_left]
        simpa [List.getElem?_take, List.getElem?_drop, itC] using this
      have hc : (hs (M.take i)).length = i * 1 := by rw [hs_length]; simp; omega
      (have g0 := decide_t hz; have g1 := w5; refine GG2 ?_; clear g0 g1)
      (refine Aa ((gApp (sz := 1) (o := o2) (c := hs (M.take i)) (new := [.i .u64 x.2.2]) (id := 2) (j := 3) (n := i) (by (simp only [go_sem, reduceIte, Nat.reduceEqDiff]; (try with_reducible exact rfl)); all_goals rfl) (by first | rfl | (rw [gO_new]; rfl)) (by first | assumption | simp [nums]) (by first | assumption | exact fun e => absurd e gNew_ne | simp_all) (by (simp only [go_sem, reduceIte, Nat.reduceEqDiff]; (try with_reducible exact rfl))) rfl rfl (by omega)).trans (by simp only [List.set_cons_succ, List.set_cons_zero, List.cons_append, List.nil_append, List.length_cons, List.length_nil, Nat.reduceAdd]; exact rfl)) ?_)
      refine GG0 ?_
      refine ⟨M.length - (i + 1), by omega, i + 1, gNew, by omega, rfl, .inr rfl, fun e => absurd e gNew_ne, ?_⟩
      have et : M.take (i + 1) = M.take i ++ [x] := by rw [List.take_add_one, hx]; rfl
      rw [et]
      (refine anew [0, 1, 4] ?_ (by decide) ?_ ?_ ?_ rfl ?_ ?_ <;> simp [-List.map_map, embAt, nm, rn_rw, rn_ro, rn_map, rn_iter, rn_dead, renL, Val.ren, wfAll, wn_rw, wn_ro, wn_map, wn_iter, wn_dead, wfL, Val.wf, Env.get, initEnv, gV_some, gO_some, renL_append, wfL_append, rowC_ren, rowC_wf, go.1, go.2.1, go.2.2.1, go.2.2.2, gOh_ren, gOh_wf, gV_ren, gV_wf, gC_new, hs_snoc])
def HdI (l : List (Int × Int × Int)) (oa ob : GO) (k : Nat) (ρ : Env) (H : Heap) : Prop :=
  ∃ i : Nat, i ≤ l.length ∧ k = l.length - i ∧ AnewS 2 [gO oa (hs l), gO ob (hs l)] [(0, gV oa 0 l.length 1), (1, gV ob 1 l.length 1), (12, .i .i64 (l.length : Nat)), (13, .i .i64 (i : Nat))] ρ H
theorem handles_c (l : List (Int × Int × Int)) (oa ob : GO) (ha : oa = none ∨ oa = gNew) (hb : ob = none ∨ ob = gNew) (na : oa = none → l.length = 0) (nb : ob = none → l.length = 0) (hl : l.length ≤ 100000) :
    SoundM Try.prog 2 19 [gV oa 0 l.length 1, gV ob 1 l.length 1] [gO oa (hs l), gO ob (hs l)] (fun v H => v = .b true ∧ H = [gO oa (hs l), gO ob (hs l)]) := by
  refine sound_told (sound_func Try.func19 c19 rfl (by simp) ?_)
  have ga := gC_of ha
  have gb := gC_of hb
  have hz0 : (((l.length : Nat) : Int) != ((l.length : Nat) : Int)) = false := by simp
  simp only [e19]
  (have g0 := gV_len na; have g1 := gV_len nb; have g2 := hz0; refine GG3 ?_; clear g0 g1 g2)
  refine ei_loop (HdI l oa ob) (n := l.length) ?_ ?_
  · refine ⟨0, by omega, by omega, ?_⟩
    (refine anew [0, 1] ?_ (by decide) ?_ ?_ ?_ rfl ?_ ?_ <;> simp [-List.map_map, embAt, nm, rn_rw, rn_ro, rn_map, rn_iter, rn_dead, renL, Val.ren, wfAll, wn_rw, wn_ro, wn_map, wn_iter, wn_dead, wfL, Val.wf, Env.get, initEnv, gV_ren, gV_wf, gOr_ren, gOr_wf, gOh_ren, gOh_wf, rowC_ren, rowC_wf, ga, gb])
  · rintro k ρ H ⟨i, hi, rfl, ha'⟩
    refine ei_anewS ha' ?_
    clear ha'
    by_cases h1 : i = l.length
    · subst h1
      have hz : ¬ (((l.length : Nat) : Int) < ((l.length : Nat) : Int)) := by omega
      (have g0 := decide_f hz; refine GG1 ?_; clear g0)
      refine told [0, 1] [gO oa (hs l), gO ob (hs l)] (.b true) ?_ (by decide) ?_ ?_ ?_ rfl ?_ ?_ ?_; iterate 6 (· simp [-List.map_map, embAt, nm, rn_rw, rn_ro, rn_map, rn_iter, rn_dead, renL, Val.ren, wfAll, wn_rw, wn_ro, wn_map, wn_iter, wn_dead, wfL, Val.wf, Env.get, initEnv, gV_ren, gV_wf, gOr_ren, gOr_wf, gOh_ren, gOh_wf, rowC_ren, rowC_wf, ga, gb])
      exact ⟨rfl, rfl⟩
    · have hlt : i < l.length := by omega
      have hz : (((i : Nat) : Int) < ((l.length : Nat) : Int)) := by omega
      obtain ⟨x, hx⟩ : ∃ x, l[i]? = some x := ⟨l[i], List.getElem?_eq_getElem hlt⟩
      have hx2 : (hs l)[i]? = some (.i .u64 x.2.2) := by simp [hs, hx]
      have hz1 : (x.2.2 != x.2.2) = false := by simp
      rcases ha with rfl | rfl
      · exact absurd (na rfl) (by omega)
      rcases hb with rfl | rfl
      · exact absurd (nb rfl) (by omega)
      simp only [gV_new, gO_new]
      (have g0 := decide_t hz; have g1 := hx2; have g2 := hz1; refine GG3 ?_; clear g0 g1 g2)
      refine ⟨l.length - (i + 1), by omega, i + 1, by omega, rfl, ?_⟩
      simp only [gV_new, gO_new]
      (refine anew [0, 1] ?_ (by decide) ?_ ?_ ?_ rfl ?_ ?_ <;> simp [-List.map_map, embAt, nm, rn_rw, rn_ro, rn_map, rn_iter, rn_dead, renL, Val.ren, wfAll, wn_rw, wn_ro, wn_map, wn_iter, wn_dead, wfL, Val.wf, Env.get, initEnv, hs_ren, hs_wf])
end Go.Proofs.Ytjahkgfihdngkaa.IR
