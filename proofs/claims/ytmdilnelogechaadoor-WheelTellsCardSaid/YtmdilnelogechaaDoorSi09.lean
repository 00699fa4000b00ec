/- This text of a proof shows: how two things of a wheel are compared when they are sorted; what sorts a few elements, one by one; what turns a row round, and what chooses a pivot; how a pivot is chosen, and a row is stirred; a row is stirred. -/
import Derived.Test.YtmdilnelogechaaDoorGg
import Derived.Test.YtmdilnelogechaaDoorR09
import Derived.Test.YtmdilnelogechaaDoorKl
import Derived.Test.YtmdilnelogechaaDoorS09
set_option linter.unusedVariables false
set_option linter.unusedSimpArgs false
set_option linter.constructorNameAsVariable false
namespace Go.Proofs.YtmdilnelogechaaDoor.IR
open Go Go.Proofs.YtmdilnelogechaaDoor.Ev Go.Proofs.YtmdilnelogechaaDoor.Ev.Rb Go.Proofs.YtmdilnelogechaaDoor.Ev.Wh
set_option linter.unusedSimpArgs false
set_option linter.unusedVariables false
set_option maxHeartbeats 4000000
attribute [local go_sem] skipV nc0 nc1 nc2 nc3 bne_self_eq_false decide_true decide_false IOp.step Opd.ev Env.get initEnv Val.cells? Val.one List.all_cons List.all_nil Bool.and_true Bool.and_self Bool.true_and bin ints eqv Val.kindNo lenNo_s lenNo_nils lenNo_sl lenNo_nilm lenNo_m lenOf_s lenOf_nils lenOf_sl lenOf_nilm unary partsOf padTo List.foldl_cons List.foldl_nil wr_nil wr_step wr_zero List.set_cons_zero List.set_cons_succ List.map_cons List.map_nil z1 z2 Nat.succ_ne_zero List.length_cons List.length_nil List.cons_append List.nil_append List.append_nil List.getElem?_cons_zero List.getElem?_cons_succ List.getElem?_nil Option.map_some Option.map_none Nat.zero_add Nat.add_zero List.drop_zero List.drop_succ_cons List.take_succ_cons List.take_zero List.take_nil and_self and_true true_and Nat.le_refl Bool.not_true Bool.not_false Option.getD_some window Val.slen bnd resV resL RV.val Bool.false_eq_true BEq.rfl Bool.true_beq Bool.false_beq beq_true beq_false mk_one ite_true ite_false eqc ceqs ceq NOp.step isK eq_self
attribute [local go_sem] bne_self_eq_false
abbrev enE : Int × Int × Int → List Val := enT
abbrev itC : Int × Int × Int → List Val := enT
abbrev rowC : List (Int × Int × Int) → List Val := thC
theorem rowC_snoc (l : List (Int × Int × Int)) (x : Int × Int × Int) : rowC l ++ itC x = rowC (l ++ [x]) := by simp [thC]
def ltE (x y : Int × Int × Int) : Prop := klt (ekey x) (ekey y)
instance (x y : Int × Int × Int) : Decidable (ltE x y) := by unfold ltE; infer_instance
theorem ltE_ord : So.Ord ltE := ⟨fun h k => klt_trans h k, fun h => klt_asymm h⟩
def cmpI (a b : Int) : Int := if a < b then -1 else if b < a then 1 else 0
def cV (x y : Int × Int × Int) : Int := if cmpI x.1 y.1 ≠ 0 then cmpI x.1 y.1 else cmpI x.2.1 y.2.1
theorem cV_lt (x y : Int × Int × Int) : cV x y < 0 ↔ ltE x y := by
  unfold cV cmpI ltE klt ekey
  rcases Int.lt_trichotomy x.1 y.1 with h | h | h
  · simp [h]
  · rcases Int.lt_trichotomy x.2.1 y.2.1 with g | g | g
    · simp [h, g]
    · simp [h, g]
    · have : ¬ x.2.1 < y.2.1 := by omega
      simp [h, g, this]
  · have : ¬ x.1 < y.1 := by omega
    have e : ¬ x.1 = y.1 := by omega
    simp [h, this, e]
theorem nanU_ok (a : Int) (H : Heap) : SoundCall Tryd.prog 51 [.i .u64 a] H (fun v H' => v = .b false ∧ H' = H) := by
  refine (sound_func Tryd.func51 c51 rfl (Nat.le_refl _) ?_)
  simp only [e51, s51]
  refine GG0 ?_
  exact ⟨rfl, rfl⟩
theorem nanI_ok (a : Int) (H : Heap) : SoundCall Tryd.prog 52 [.i .i64 a] H (fun v H' => v = .b false ∧ H' = H) := by
  refine (sound_func Tryd.func52 c52 rfl (Nat.le_refl _) ?_)
  simp only [e52, s52]
  refine GG0 ?_
  exact ⟨rfl, rfl⟩
theorem compU_ok (a b : Int) (H : Heap) : SoundCall Tryd.prog 35 [.i .u64 a, .i .u64 b] H (fun v H' => v = .i .i64 (cmpI a b) ∧ H' = H) := by
  refine (sound_func Tryd.func35 c35 rfl (Nat.le_refl _) ?_)
  simp only [e35, s35]
  refine GG0 ?_
  (first | ((with_reducible first | apply RunP.call | apply Run.call | apply Run.call0); iterate 2 (· (simp only [go_sem, reduceIte, Nat.reduceEqDiff]; (try with_reducible exact rfl)))) | ((with_reducible first | apply Run.callY | apply RunP.callY); iterate 3 (· (simp only [go_sem, reduceIte, Nat.reduceEqDiff]; (try with_reducible exact rfl)))))
  refine (nanU_ok _ _).mono ?_
  rintro v H' ⟨rfl, rfl⟩
  refine GG0 ?_
  (first | ((with_reducible first | apply RunP.call | apply Run.call | apply Run.call0); iterate 2 (· (simp only [go_sem, reduceIte, Nat.reduceEqDiff]; (try with_reducible exact rfl)))) | ((with_reducible first | apply Run.callY | apply RunP.callY); iterate 3 (· (simp only [go_sem, reduceIte, Nat.reduceEqDiff]; (try with_reducible exact rfl)))))
  refine (nanU_ok _ _).mono ?_
  rintro v H' ⟨rfl, rfl⟩
  unfold cmpI
  by_cases h : a < b
  · (have g0 := decide_t h; refine GG1 ?_; clear g0)
    rw [if_pos h]; exact ⟨rfl, rfl⟩
  · by_cases g : a > b
    · (have g0 := decide_f h; have g1 := decide_t g; refine GG2 ?_; clear g0 g1)
      rw [if_neg h, if_pos g]; exact ⟨rfl, rfl⟩
    · (have g0 := decide_f h; have g1 := decide_f g; refine GG2 ?_; clear g0 g1)
      rw [if_neg h, if_neg g]; exact ⟨rfl, rfl⟩
theorem compI_ok (a b : Int) (H : Heap) : SoundCall Tryd.prog 36 [.i .i64 a, .i .i64 b] H (fun v H' => v = .i .i64 (cmpI a b) ∧ H' = H) := by
  refine (sound_func Tryd.func36 c36 rfl (Nat.le_refl _) ?_)
  simp only [e36, s36]
  refine GG0 ?_
  (first | ((with_reducible first | apply RunP.call | apply Run.call | apply Run.call0); iterate 2 (· (simp only [go_sem, reduceIte, Nat.reduceEqDiff]; (try with_reducible exact rfl)))) | ((with_reducible first | apply Run.callY | apply RunP.callY); iterate 3 (· (simp only [go_sem, reduceIte, Nat.reduceEqDiff]; (try with_reducible exact rfl)))))
  refine (nanI_ok _ _).mono ?_
  rintro v H' ⟨rfl, rfl⟩
  refine GG0 ?_
  (first | ((with_reducible first | apply RunP.call | apply Run.call | apply Run.call0); iterate 2 (· (simp only [go_sem, reduceIte, Nat.reduceEqDiff]; (try with_reducible exact rfl)))) | ((with_reducible first | apply Run.callY | apply RunP.callY); iterate 3 (· (simp only [go_sem, reduceIte, Nat.reduceEqDiff]; (try with_reducible exact rfl)))))
  refine (nanI_ok _ _).mono ?_
  rintro v H' ⟨rfl, rfl⟩
  unfold cmpI
  by_cases h : a < b
  · (have g0 := decide_t h; refine GG1 ?_; clear g0)
    rw [if_pos h]; exact ⟨rfl, rfl⟩
  · by_cases g : a > b
    · (have g0 := decide_f h; have g1 := decide_t g; refine GG2 ?_; clear g0 g1)
      rw [if_neg h, if_pos g]; exact ⟨rfl, rfl⟩
    · (have g0 := decide_f h; have g1 := decide_f g; refine GG2 ?_; clear g0 g1)
      rw [if_neg h, if_neg g]; exact ⟨rfl, rfl⟩
def OrI (a b : Int) (n : Nat) (ρ : Env) (H : Heap) : Prop :=
  ∃ i : Nat, i ≤ 2 ∧ n = 2 - i ∧ (0 < i → a = 0) ∧ (1 < i → b = 0) ∧ AnewS 1 [.rw [.i .i64 a, .i .i64 b]] [(3, .i .i64 0), (6, .sl 0 0 2 1), (7, .i .i64 2), (8, .i .i64 (i : Nat))] ρ H
theorem or_c (a b : Int) : SoundM Tryd.prog 1 34 [.sl 0 0 2 1] [.rw [.i .i64 a, .i .i64 b]] (fun v H => v = .i .i64 (if a ≠ 0 then a else b) ∧ H = [.rw [.i .i64 a, .i .i64 b]]) := by
  refine (sound_func Tryd.func34 c34 rfl (Nat.le_refl _) ?_)
  simp only [e34, s34]
  refine GG0 ?_
  refine ei_loop (OrI a b) (n := 2) ?_ ?_
  · refine ⟨0, by omega, by omega, by omega, by omega, ?_⟩
    (refine anew [0] ?_ (by decide) ?_ ?_ ?_ rfl ?_ ?_ <;> simp [-List.map_map, embAt, nm, rn_rw, rn_ro, rn_map, rn_iter, rn_dead, renL, Val.ren, wfAll, wn_rw, wn_ro, wn_map, wn_iter, wn_dead, wfL, Val.wf, Env.get, initEnv, Val.ren])
  · rintro n ρ H ⟨i, hi, rfl, h1, h2, ha⟩
    refine ei_anewS ha ?_
    clear ha
    obtain rfl | rfl | rfl : i = 0 ∨ i = 1 ∨ i = 2 := by omega
    · by_cases h : a = 0
      · have hb : (a != 0) = false := by simp [h]
        (have g0 := hb; refine GG1 ?_; clear g0)
        refine ⟨1, by omega, 1, by omega, by omega, fun _ => h, by omega, ?_⟩
        (refine anew [0] ?_ (by decide) ?_ ?_ ?_ rfl ?_ ?_ <;> simp [-List.map_map, embAt, nm, rn_rw, rn_ro, rn_map, rn_iter, rn_dead, renL, Val.ren, wfAll, wn_rw, wn_ro, wn_map, wn_iter, wn_dead, wfL, Val.wf, Env.get, initEnv, Val.ren])
      · have hb : (a != 0) = true := by simpa using h
        (have g0 := hb; refine GG1 ?_; clear g0)
        rw [if_pos h]; exact ⟨rfl, rfl⟩
    · have h := h1 (by omega)
      by_cases g : b = 0
      · have hb : (b != 0) = false := by simp [g]
        (have g0 := hb; refine GG1 ?_; clear g0)
        refine ⟨0, by omega, 2, by omega, by omega, fun _ => h, fun _ => g, ?_⟩
        (refine anew [0] ?_ (by decide) ?_ ?_ ?_ rfl ?_ ?_ <;> simp [-List.map_map, embAt, nm, rn_rw, rn_ro, rn_map, rn_iter, rn_dead, renL, Val.ren, wfAll, wn_rw, wn_ro, wn_map, wn_iter, wn_dead, wfL, Val.wf, Env.get, initEnv, Val.ren])
      · have hb : (b != 0) = true := by simpa using g
        (have g0 := hb; refine GG1 ?_; clear g0)
        rw [if_neg (by simp [h])]; exact ⟨rfl, rfl⟩
    · have h := h1 (by omega)
      have g := h2 (by omega)
      refine GG0 ?_
      rw [if_neg (by simp [h]), g]; exact ⟨rfl, rfl⟩
theorem cmp_c (x y : Int × Int × Int) : SoundM Tryd.prog 0 33 [.agg (enE x), .agg (enE y)] [] (fun v H => v = .i .i64 (cV x y) ∧ H = []) := by
  refine sound_told (sound_func Tryd.func33 c33 rfl (by simp) ?_)
  simp only [e33, s33, enT]
  refine GG0 ?_
  (first | ((with_reducible first | apply RunP.call | apply Run.call | apply Run.call0); iterate 2 (· (simp only [go_sem, reduceIte, Nat.reduceEqDiff]; (try with_reducible exact rfl)))) | ((with_reducible first | apply Run.callY | apply RunP.callY); iterate 3 (· (simp only [go_sem, reduceIte, Nat.reduceEqDiff]; (try with_reducible exact rfl)))))
  refine (compU_ok _ _ _).mono ?_
  rintro v H' ⟨rfl, rfl⟩
  (first | refine And.intro rfl ?_ | refine And.intro trivial ?_ | skip)
  refine GG0 ?_
  (first | ((with_reducible first | apply RunP.call | apply Run.call | apply Run.call0); iterate 2 (· (simp only [go_sem, reduceIte, Nat.reduceEqDiff]; (try with_reducible exact rfl)))) | ((with_reducible first | apply Run.callY | apply RunP.callY); iterate 3 (· (simp only [go_sem, reduceIte, Nat.reduceEqDiff]; (try with_reducible exact rfl)))))
  refine (compI_ok _ _ _).mono ?_
  rintro v H' ⟨rfl, rfl⟩
  (first | refine And.intro rfl ?_ | refine And.intro trivial ?_ | skip)
  refine GG0 ?_
  (first | ((with_reducible first | apply RunP.call | apply Run.call | apply Run.call0); iterate 2 (· (simp only [go_sem, reduceIte, Nat.reduceEqDiff]; (try with_reducible exact rfl)))) | ((with_reducible first | apply Run.callY | apply RunP.callY); iterate 3 (· (simp only [go_sem, reduceIte, Nat.reduceEqDiff]; (try with_reducible exact rfl)))))
  refine sound_use (or_c (cmpI x.1 y.1) (cmpI x.2.1 y.2.1)) [2] rfl (by decide) ?_ ?_ ?_ ?_ ?_; iterate 4 (· simp [-List.map_map, embAt, nm, rn_rw, rn_ro, rn_map, rn_iter, rn_dead, renL, Val.ren, wfAll, wn_rw, wn_ro, wn_map, wn_iter, wn_dead, wfL, Val.wf, Env.get, initEnv, Val.ren])
  rintro v C' ⟨rfl, rfl⟩
  simp only [merge, place, after, nm, MG, Val.ren, renL, rn_rw, rn_ro, rn_map, rn_iter, rn_dead, reduceIte, Nat.reduceLT, Nat.reduceAdd, Nat.reduceSub, Nat.lt_irrefl, Nat.zero_lt_one, Nat.zero_lt_succ]
  (first | refine And.intro rfl ?_ | refine And.intro trivial ?_ | skip)
  refine GG0 ?_
  refine told [] [] (.i .i64 (cV x y)) ?_ (by decide) ?_ ?_ ?_ rfl ?_ ?_ ?_; iterate 6 (· simp [-List.map_map, embAt, nm, rn_rw, rn_ro, rn_map, rn_iter, rn_dead, renL, Val.ren, wfAll, wn_rw, wn_ro, wn_map, wn_iter, wn_dead, wfL, Val.wf, Env.get, initEnv, Val.ren, cV])
  exact ⟨rfl, rfl⟩
theorem cmp_ok (x y : Int × Int × Int) (H : Heap) : SoundCall Tryd.prog 33 [.agg (enE x), .agg (enE y)] H (fun v H' => v = .i .i64 (cV x y) ∧ H' = H) :=
  sound_alone (cmp_c x y) (by simp [wfL, Val.wf, enT]) (fun ι => by simp [renL, Val.ren, enT]) (fun ι => rfl) H
theorem en3 (x : Int × Int × Int) : (enE x).length = 3 := rfl
theorem en_ren (ι : Nat → Nat) (x : Int × Int × Int) : renL ι (enE x) = enE x := rfl
theorem en_wf (m : Nat) (x : Int × Int × Int) : wfL m (enE x) = true := rfl
theorem en_all (x : Int × Int × Int) : (enE x).all Val.one = true := rfl
end Go.Proofs.YtmdilnelogechaaDoor.IR
namespace Go.Proofs.YtmdilnelogechaaDoor.IR
open Go Go.Proofs.YtmdilnelogechaaDoor.Ev Go.Proofs.YtmdilnelogechaaDoor.Ev.Rb Go.Proofs.YtmdilnelogechaaDoor.Ev.So
set_option linter.unusedSimpArgs false
set_option linter.unusedVariables false
set_option maxHeartbeats 4000000
attribute [local go_sem] skipV nc0 nc1 nc2 nc3 bne_self_eq_false decide_true decide_false IOp.step Opd.ev Env.get initEnv Val.cells? Val.one List.all_cons List.all_nil Bool.and_true Bool.and_self Bool.true_and bin ints eqv Val.kindNo lenNo_s lenNo_nils lenNo_sl lenNo_nilm lenNo_m lenOf_s lenOf_nils lenOf_sl lenOf_nilm unary partsOf padTo List.foldl_cons List.foldl_nil wr_nil wr_step wr_zero List.set_cons_zero List.set_cons_succ List.map_cons List.map_nil z1 z2 Nat.succ_ne_zero List.length_cons List.length_nil List.cons_append List.nil_append List.append_nil List.getElem?_cons_zero List.getElem?_cons_succ List.getElem?_nil Option.map_some Option.map_none Nat.zero_add Nat.add_zero List.drop_zero List.drop_succ_cons List.take_succ_cons List.take_zero List.take_nil and_self and_true true_and Nat.le_refl Bool.not_true Bool.not_false Option.getD_some window Val.slen bnd resV resL RV.val Bool.false_eq_true BEq.rfl Bool.true_beq Bool.false_beq beq_true beq_false mk_one ite_true ite_false eqc ceqs ceq NOp.step isK eq_self
attribute [local go_sem] nat_toNat en_all en3
def rC (f : Row) (n : Nat) : List Val := encR enE f n
theorem rC_ren (ι : Nat → Nat) (f : Row) (n : Nat) : renL ι (rC f n) = rC f n := encR_ren en_ren ι f n
theorem rC_wf (m : Nat) (f : Row) (n : Nat) : wfL m (rC f n) = true := encR_wf en_wf m f n
theorem rC_len (f : Row) (n : Nat) : (rC f n).length = n * 3 := encR_length en3 f n
theorem rC_get {f : Row} {n i : Nat} (h : i < n) : ((rC f n).drop (i * 3)).take 3 = enE (f i) := encR_get en3 f n h
theorem rC_wr {f : Row} {n i : Nat} (x : E) (h : i < n) : wr (rC f n) (i * 3) (enE x) = rC (So.upd f i x) n := encR_wr en3 f x n h
/-- What is left of a row: swaps of it. -/
def Sw (f : Row) (n a b : Nat) (R : Val → Row → Prop) (v : Val) (H : Heap) : Prop := ∃ g : Row, Sws a b f g ∧ R v g ∧ H = [.rw (rC g n)]
def II1 (f : Row) (n a b : Nat) (k : Nat) (ρ : Env) (H : Heap) : Prop :=
  ∃ (i : Nat) (g : Row), a ≤ i ∧ (i ≤ b ∨ b ≤ a) ∧ k = b - i ∧ Sws a b f g ∧ Srt ltE g a (min i b) ∧ AnewS 1 [.rw (rC g n)] [(0, (.sl 0 0 n 3)), (1, .i .i64 (a : Nat)), (2, .i .i64 (b : Nat)), (3, (.fn (.func 33) [] [])), (8, .i .i64 (i : Nat))] ρ H
/-- All but what is let in at j stand in order. -/
def Let (g : Row) (a i j : Nat) : Prop := ∀ p q, a ≤ p → p < q → q ≤ i → q ≠ j → ltE (g p) (g q)
def II2 (f : Row) (n a b i : Nat) (k : Nat) (ρ : Env) (H : Heap) : Prop :=
  ∃ (j : Nat) (g : Row), a ≤ j ∧ j ≤ i ∧ j = k ∧ Sws a b f g ∧ Let g a i j ∧ AnewS 1 [.rw (rC g n)] [(0, (.sl 0 0 n 3)), (1, .i .i64 (a : Nat)), (2, .i .i64 (b : Nat)), (3, (.fn (.func 33) [] [])), (8, .i .i64 (i : Nat)), (9, .i .i64 (j : Nat))] ρ H
theorem let_swp {g : Row} {a i j : Nat} (h : Let g a i j) (hj : a < j) (hji : j ≤ i) (hlt : ltE (g j) (g (j - 1))) : Let (swp g j (j - 1)) a i (j - 1) := by
  intro p q hp hpq hqi hq
  have vj : swp g j (j - 1) j = g (j - 1) := swp_l _ _ _
  have vj1 : swp g j (j - 1) (j - 1) = g j := swp_r _ _ _
  have vo : ∀ k, k ≠ j → k ≠ j - 1 → swp g j (j - 1) k = g k := fun k h1 h2 => swp_o h1 h2
  by_cases q1 : q = j
  · subst q1
    rw [vj]
    by_cases p1 : p = q - 1
    · subst p1; rw [vj1]; exact hlt
    · rw [vo p (by omega) p1]; exact h p (q - 1) hp (by omega) (by omega) (by omega)
  · rw [vo q q1 hq]
    by_cases p1 : p = j
    · subst p1; rw [vj]; exact h (p - 1) q (by omega) (by omega) hqi q1
    · by_cases p2 : p = j - 1
      · subst p2; rw [vj1]; exact h j q (by omega) (by omega) hqi q1
      · rw [vo p p1 p2]; exact h p q hp hpq hqi q1
theorem let_done {g : Row} {a i j n : Nat} (h : Let g a i j) (hj : a ≤ j) (hji : j ≤ i) (hi : i < n) (ht : Tot ltE g n) (hd : j = a ∨ ¬ ltE (g j) (g (j - 1))) : Srt ltE g a (i + 1) := by
  intro p q hp hpq hq
  by_cases e : q = j
  · subst e
    rcases hd with rfl | hd
    · omega
    · have h1 : ltE (g (q - 1)) (g q) := (ht q (q - 1) (by omega) (by omega) (by omega)).resolve_left hd
      by_cases e2 : p = q - 1
      · subst e2; exact h1
      · exact ltE_ord.trans (h p (q - 1) hp (by omega) (by omega) (by omega)) h1
  · exact h p q hp hpq (by omega) e
theorem ins_c (f : Row) (n a b : Nat) (hab : a ≤ b) (hb : b ≤ n) (hn : n ≤ 100000) (ht : Tot ltE f n) :
    SoundM Tryd.prog 1 62 [(.sl 0 0 n 3), .i .i64 (a : Nat), .i .i64 (b : Nat), (.fn (.func 33) [] [])] [.rw (rC f n)] (Sw f n a b fun v g => v = .tup [] ∧ Srt ltE g a b) := by
  refine sound_told (sound_func Tryd.func62 c62 rfl (by simp) ?_)
  simp only [e62, s62]
  refine GG0 ?_
  refine ei_loop (II1 f n a b) (n := b - (a + 1)) ?_ ?_
  · refine ⟨a + 1, f, by omega, by omega, rfl, .refl, .small (by omega), ?_⟩
    (refine anew [0] ?_ (by decide) ?_ ?_ ?_ rfl ?_ ?_ <;> simp [-List.map_map, embAt, nm, rn_rw, rn_ro, rn_map, rn_iter, rn_dead, renL, Val.ren, wfAll, wn_rw, wn_ro, wn_map, wn_iter, wn_dead, wfL, Val.wf, Env.get, initEnv, rC_ren, rC_wf])
  · rintro k ρ H ⟨i, g, hi, hib, rfl, hs, hso, ha⟩
    refine ei_anewS ha ?_
    clear ha
    by_cases hlt : i < b
    · have hd : ((i : Nat) : Int) < ((b : Nat) : Int) := by omega
      rw [Nat.min_eq_left (by omega)] at hso
      (have g0 := decide_t hd; refine GG1 ?_; clear g0)
      refine ei_loop (II2 f n a b i) (n := i) ?_ ?_
      · refine ⟨i, g, hi, Nat.le_refl _, rfl, hs, fun p q hp hpq hq hne => hso p q hp hpq (by omega), ?_⟩
        (refine anew [0] ?_ (by decide) ?_ ?_ ?_ rfl ?_ ?_ <;> simp [-List.map_map, embAt, nm, rn_rw, rn_ro, rn_map, rn_iter, rn_dead, renL, Val.ren, wfAll, wn_rw, wn_ro, wn_map, wn_iter, wn_dead, wfL, Val.wf, Env.get, initEnv, rC_ren, rC_wf])
      · clear hs hso
        rintro k ρ H ⟨j, g, hj, hji, rfl, hs, hl, ha⟩
        refine ei_anewS ha ?_
        clear ha
        have htg := hs.tot ht hb
        by_cases hja : j = a
        · subst hja
          have hz : ¬ ((j : Nat) : Int) > ((j : Nat) : Int) := by omega
          have hdone := let_done hl (Nat.le_refl _) hji (by omega) htg (.inl rfl)
          (have g0 := decide_f hz; refine GG1 ?_; clear g0)
          refine ⟨b - (i + 1), by omega, i + 1, g, by omega, by omega, rfl, hs, by rw [Nat.min_eq_left (by omega)]; exact hdone, ?_⟩
          (refine anew [0] ?_ (by decide) ?_ ?_ ?_ rfl ?_ ?_ <;> simp [-List.map_map, embAt, nm, rn_rw, rn_ro, rn_map, rn_iter, rn_dead, renL, Val.ren, wfAll, wn_rw, wn_ro, wn_map, wn_iter, wn_dead, wfL, Val.wf, Env.get, initEnv, rC_ren, rC_wf])
        · have hz : ((j : Nat) : Int) > ((a : Nat) : Int) := by omega
          have e1 : (((j : Nat) : Int) - 1).toNat = j - 1 := by omega
          have hl3 := rC_len g n
          (have g0 := decide_t hz; have g1 := e1; have g2 := fun qf => rC_get (f := qf) (show j < n by omega); have g3 := fun qf => rC_get (f := qf) (show j - 1 < n by omega); refine GG4 ?_; clear g0 g1 g2 g3)
          (first | ((with_reducible first | apply RunP.call | apply Run.call | apply Run.call0); iterate 2 (· (simp only [go_sem, reduceIte, Nat.reduceEqDiff]; (try with_reducible exact rfl)))) | ((with_reducible first | apply Run.callY | apply RunP.callY); iterate 3 (· (simp only [go_sem, reduceIte, Nat.reduceEqDiff]; (try with_reducible exact rfl)))))
          refine (cmp_ok _ _ _).mono ?_
          rintro v H' ⟨rfl, rfl⟩
          (first | refine And.intro rfl ?_ | refine And.intro trivial ?_ | skip)
          by_cases hc : ltE (g j) (g (j - 1))
          · have hcv : cV (g j) (g (j - 1)) < 0 := (cV_lt _ _).2 hc
            (have g0 := decide_t hcv; have g1 := e1; have g2 := fun qf => rC_get (f := qf) (show j < n by omega); have g3 := fun qf => rC_get (f := qf) (show j - 1 < n by omega); have g4 := fun qf q0 => rC_wr (f := qf) q0 (show j < n by omega); have g5 := fun qf q0 => rC_wr (f := qf) q0 (show j - 1 < n by omega); have g6 := hl3; have g7 := rC_len; refine GG8 ?_; clear g0 g1 g2 g3 g4 g5 g6 g7)
            have hsw : rC (So.upd (So.upd g j (g (j - 1))) (j - 1) (g j)) n = rC (swp g j (j - 1)) n := rfl
            have e2 : ((j : Nat) : Int) - 1 = ((j - 1 : Nat) : Int) := by omega
            rw [hsw, e2]
            refine ⟨j - 1, by omega, j - 1, swp g j (j - 1), by omega, by omega, rfl, .swap j (j - 1) hs ⟨by omega, by omega⟩ ⟨by omega, by omega⟩, let_swp hl (by omega) hji hc, ?_⟩
            (refine anew [0] ?_ (by decide) ?_ ?_ ?_ rfl ?_ ?_ <;> simp [-List.map_map, embAt, nm, rn_rw, rn_ro, rn_map, rn_iter, rn_dead, renL, Val.ren, wfAll, wn_rw, wn_ro, wn_map, wn_iter, wn_dead, wfL, Val.wf, Env.get, initEnv, rC_ren, rC_wf])
          · have hcv : ¬ cV (g j) (g (j - 1)) < 0 := fun h => hc ((cV_lt _ _).1 h)
            have hdone := let_done hl hj hji (by omega) htg (.inr hc)
            (have g0 := decide_f hcv; refine GG1 ?_; clear g0)
            refine ⟨b - (i + 1), by omega, i + 1, g, by omega, by omega, rfl, hs, by rw [Nat.min_eq_left (by omega)]; exact hdone, ?_⟩
            (refine anew [0] ?_ (by decide) ?_ ?_ ?_ rfl ?_ ?_ <;> simp [-List.map_map, embAt, nm, rn_rw, rn_ro, rn_map, rn_iter, rn_dead, renL, Val.ren, wfAll, wn_rw, wn_ro, wn_map, wn_iter, wn_dead, wfL, Val.wf, Env.get, initEnv, rC_ren, rC_wf])
    · have hd : ¬ ((i : Nat) : Int) < ((b : Nat) : Int) := by omega
      rw [Nat.min_eq_right (by omega)] at hso
      (have g0 := decide_f hd; refine GG1 ?_; clear g0)
      refine told [0] [.rw (rC g n)] (.tup []) ?_ (by decide) ?_ ?_ ?_ rfl ?_ ?_ ?_; iterate 6 (· simp [-List.map_map, embAt, nm, rn_rw, rn_ro, rn_map, rn_iter, rn_dead, renL, Val.ren, wfAll, wn_rw, wn_ro, wn_map, wn_iter, wn_dead, wfL, Val.wf, Env.get, initEnv, rC_ren, rC_wf])
      exact ⟨g, hs, ⟨rfl, hso⟩, rfl⟩
end Go.Proofs.YtmdilnelogechaaDoor.IR
namespace Go.Proofs.YtmdilnelogechaaDoor.IR
open Go Go.Proofs.YtmdilnelogechaaDoor.Ev Go.Proofs.YtmdilnelogechaaDoor.Ev.Rb Go.Proofs.YtmdilnelogechaaDoor.Ev.So
set_option linter.unusedSimpArgs false
set_option linter.unusedVariables false
set_option maxHeartbeats 4000000
attribute [local go_sem] skipV nc0 nc1 nc2 nc3 bne_self_eq_false decide_true decide_false IOp.step Opd.ev Env.get initEnv Val.cells? Val.one List.all_cons List.all_nil Bool.and_true Bool.and_self Bool.true_and bin ints eqv Val.kindNo lenNo_s lenNo_nils lenNo_sl lenNo_nilm lenNo_m lenOf_s lenOf_nils lenOf_sl lenOf_nilm unary partsOf padTo List.foldl_cons List.foldl_nil wr_nil wr_step wr_zero List.set_cons_zero List.set_cons_succ List.map_cons List.map_nil z1 z2 Nat.succ_ne_zero List.length_cons List.length_nil List.cons_append List.nil_append List.append_nil List.getElem?_cons_zero List.getElem?_cons_succ List.getElem?_nil Option.map_some Option.map_none Nat.zero_add Nat.add_zero List.drop_zero List.drop_succ_cons List.take_succ_cons List.take_zero List.take_nil and_self and_true true_and Nat.le_refl Bool.not_true Bool.not_false Option.getD_some window Val.slen bnd resV resL RV.val Bool.false_eq_true BEq.rfl Bool.true_beq Bool.false_beq beq_true beq_false mk_one ite_true ite_false eqc ceqs ceq NOp.step isK eq_self
attribute [local go_sem] nat_toNat en_all en3
def RvI (f : Row) (n a b : Nat) (k : Nat) (ρ : Env) (H : Heap) : Prop :=
  ∃ (i j : Int) (g : Row), (a : Int) ≤ i ∧ j < (b : Int) ∧ i ≤ (b : Int) ∧ (a : Int) ≤ j + 1 ∧ k = (j + 1 - i).toNat ∧ Sws a b f g ∧ AnewS 1 [.rw (rC g n)] [(0, (.sl 0 0 n 3)), (8, .i .i64 i), (9, .i .i64 j)] ρ H
theorem rev_c (f : Row) (n a b : Nat) (hab : a ≤ b) (hb : b ≤ n) (hn : n ≤ 100000) :
    SoundM Tryd.prog 1 66 [(.sl 0 0 n 3), .i .i64 (a : Nat), .i .i64 (b : Nat), (.fn (.func 33) [] [])] [.rw (rC f n)] (Sw f n a b fun v _ => v = .tup []) := by
  refine sound_told (sound_func Tryd.func66 c66 rfl (by simp) ?_)
  simp only [e66, s66]
  refine GG0 ?_
  refine ei_loop (RvI f n a b) (n := b - a) ?_ ?_
  · refine ⟨(a : Nat), (b : Nat) - 1, f, by omega, by omega, by omega, by omega, by omega, .refl, ?_⟩
    (refine anew [0] ?_ (by decide) ?_ ?_ ?_ rfl ?_ ?_ <;> simp [-List.map_map, embAt, nm, rn_rw, rn_ro, rn_map, rn_iter, rn_dead, renL, Val.ren, wfAll, wn_rw, wn_ro, wn_map, wn_iter, wn_dead, wfL, Val.wf, Env.get, initEnv, rC_ren, rC_wf])
  · rintro k ρ H ⟨i, j, g, h1, h2, h3, h4, rfl, hs, ha⟩
    refine ei_anewS ha ?_
    clear ha
    by_cases hlt : i < j
    · obtain ⟨p, rfl⟩ : ∃ p : Nat, i = (p : Nat) := ⟨i.toNat, by omega⟩
      obtain ⟨q, rfl⟩ : ∃ q : Nat, j = (q : Nat) := ⟨j.toNat, by omega⟩
      have hl3 := rC_len g n
      (have g0 := decide_t hlt; have g1 := fun qf => rC_get (f := qf) (show p < n by omega); have g2 := fun qf => rC_get (f := qf) (show q < n by omega); have g3 := fun qf q0 => rC_wr (f := qf) q0 (show p < n by omega); have g4 := fun qf q0 => rC_wr (f := qf) q0 (show q < n by omega); have g5 := rC_len; refine GG6 ?_; clear g0 g1 g2 g3 g4 g5)
      have hsw : rC (So.upd (So.upd g p (g q)) q (g p)) n = rC (swp g p q) n := rfl
      rw [hsw]
      refine ⟨((q : Int) - 1 + 1 - ((p : Int) + 1)).toNat, by omega, _, _, swp g p q, by omega, by omega, by omega, by omega, rfl, .swap p q hs ⟨by omega, by omega⟩ ⟨by omega, by omega⟩, ?_⟩
      (refine anew [0] ?_ (by decide) ?_ ?_ ?_ rfl ?_ ?_ <;> simp [-List.map_map, embAt, nm, rn_rw, rn_ro, rn_map, rn_iter, rn_dead, renL, Val.ren, wfAll, wn_rw, wn_ro, wn_map, wn_iter, wn_dead, wfL, Val.wf, Env.get, initEnv, rC_ren, rC_wf])
    · (have g0 := decide_f hlt; refine GG1 ?_; clear g0)
      refine told [0] [.rw (rC g n)] (.tup []) ?_ (by decide) ?_ ?_ ?_ rfl ?_ ?_ ?_; iterate 6 (· simp [-List.map_map, embAt, nm, rn_rw, rn_ro, rn_map, rn_iter, rn_dead, renL, Val.ren, wfAll, wn_rw, wn_ro, wn_map, wn_iter, wn_dead, wfL, Val.wf, Env.get, initEnv, rC_ren, rC_wf])
      exact ⟨g, hs, rfl, rfl⟩
/-- Two places, in some order; how often they were exchanged. -/
def O2 (f : Row) (n a b : Nat) (s : Int) (v : Val) (H : Heap) : Prop := ∃ (c d : Nat) (s' : Int), (c = a ∧ d = b ∨ c = b ∧ d = a) ∧ s ≤ s' ∧ s' ≤ s + 1 ∧ v = .tup [.i .i64 (c : Nat), .i .i64 (d : Nat)] ∧ H = [.rw (rC f n), .rw [.i .i64 s']]
theorem order2_c (f : Row) (n a b : Nat) (s : Int) (ha : a < n) (hb : b < n) (hn : n ≤ 100000) (hs : 0 ≤ s ∧ s ≤ 1000) :
    SoundM Tryd.prog 2 81 [(.sl 0 0 n 3), .i .i64 (a : Nat), .i .i64 (b : Nat), .p 1 0, (.fn (.func 33) [] [])] [.rw (rC f n), .rw [.i .i64 s]] (O2 f n a b s) := by
  refine sound_told (sound_func Tryd.func81 c81 rfl (by simp) ?_)
  have hl3 := rC_len f n
  simp only [e81, s81]
  (have g0 := fun qf => rC_get (f := qf) ha; have g1 := fun qf => rC_get (f := qf) hb; refine GG2 ?_; clear g0 g1)
  (first | ((with_reducible first | apply RunP.call | apply Run.call | apply Run.call0); iterate 2 (· (simp only [go_sem, reduceIte, Nat.reduceEqDiff]; (try with_reducible exact rfl)))) | ((with_reducible first | apply Run.callY | apply RunP.callY); iterate 3 (· (simp only [go_sem, reduceIte, Nat.reduceEqDiff]; (try with_reducible exact rfl)))))
  refine (cmp_ok _ _ _).mono ?_
  rintro v H' ⟨rfl, rfl⟩
  (first | refine And.intro rfl ?_ | refine And.intro trivial ?_ | skip)
  by_cases hc : cV (f b) (f a) < 0
  · (have g0 := decide_t hc; refine GG1 ?_; clear g0)
    refine told [0, 1] [.rw (rC f n), .rw [.i .i64 (s + 1)]] (.tup [.i .i64 (b : Nat), .i .i64 (a : Nat)]) ?_ (by decide) ?_ ?_ ?_ rfl ?_ ?_ ?_; iterate 6 (· simp [-List.map_map, embAt, nm, rn_rw, rn_ro, rn_map, rn_iter, rn_dead, renL, Val.ren, wfAll, wn_rw, wn_ro, wn_map, wn_iter, wn_dead, wfL, Val.wf, Env.get, initEnv, rC_ren, rC_wf])
    exact ⟨b, a, s + 1, .inr ⟨rfl, rfl⟩, by omega, by omega, rfl, rfl⟩
  · (have g0 := decide_f hc; refine GG1 ?_; clear g0)
    refine told [0, 1] [.rw (rC f n), .rw [.i .i64 s]] (.tup [.i .i64 (a : Nat), .i .i64 (b : Nat)]) ?_ (by decide) ?_ ?_ ?_ rfl ?_ ?_ ?_; iterate 6 (· simp [-List.map_map, embAt, nm, rn_rw, rn_ro, rn_map, rn_iter, rn_dead, renL, Val.ren, wfAll, wn_rw, wn_ro, wn_map, wn_iter, wn_dead, wfL, Val.wf, Env.get, initEnv, rC_ren, rC_wf])
    exact ⟨a, b, s, .inl ⟨rfl, rfl⟩, by omega, by omega, rfl, rfl⟩
def Md (f : Row) (n : Nat) (P : Nat → Prop) (s : Int) (v : Val) (H : Heap) : Prop := ∃ (c : Nat) (s' : Int), P c ∧ s ≤ s' ∧ s' ≤ s + 3 ∧ v = .i .i64 (c : Nat) ∧ H = [.rw (rC f n), .rw [.i .i64 s']]
theorem median_c (f : Row) (n a b c : Nat) (s : Int) (ha : a < n) (hb : b < n) (hcn : c < n) (hn : n ≤ 100000) (hs : 0 ≤ s ∧ s ≤ 990) :
    SoundM Tryd.prog 2 79 [(.sl 0 0 n 3), .i .i64 (a : Nat), .i .i64 (b : Nat), .i .i64 (c : Nat), .p 1 0, (.fn (.func 33) [] [])] [.rw (rC f n), .rw [.i .i64 s]] (Md f n (fun x => x = a ∨ x = b ∨ x = c) s) := by
  refine sound_told (sound_func Tryd.func79 c79 rfl (by simp) ?_)
  simp only [e79, s79]
  refine GG0 ?_
  (first | ((with_reducible first | apply RunP.call | apply Run.call | apply Run.call0); iterate 2 (· (simp only [go_sem, reduceIte, Nat.reduceEqDiff]; (try with_reducible exact rfl)))) | ((with_reducible first | apply Run.callY | apply RunP.callY); iterate 3 (· (simp only [go_sem, reduceIte, Nat.reduceEqDiff]; (try with_reducible exact rfl)))))
  refine sound_use (order2_c f n a b s ha hb hn (by omega)) [0, 1] rfl (by decide) ?_ ?_ ?_ ?_ ?_; iterate 4 (· simp [-List.map_map, embAt, nm, rn_rw, rn_ro, rn_map, rn_iter, rn_dead, renL, Val.ren, wfAll, wn_rw, wn_ro, wn_map, wn_iter, wn_dead, wfL, Val.wf, Env.get, initEnv, rC_ren, rC_wf])
  rintro v C' ⟨x1, y1, s1, hxy1, hs1, hs1', rfl, rfl⟩
  simp only [merge, place, after, nm, MG, Val.ren, renL, rn_rw, rn_ro, rn_map, rn_iter, rn_dead, reduceIte, Nat.reduceLT, Nat.reduceAdd, Nat.reduceSub, Nat.lt_irrefl, Nat.zero_lt_one, Nat.zero_lt_succ, rC_ren]
  have hx1 : x1 < n := by rcases hxy1 with ⟨h, _⟩ | ⟨h, _⟩ <;> omega
  have hy1 : y1 < n := by rcases hxy1 with ⟨_, h⟩ | ⟨_, h⟩ <;> omega
  refine GG0 ?_
  (first | ((with_reducible first | apply RunP.call | apply Run.call | apply Run.call0); iterate 2 (· (simp only [go_sem, reduceIte, Nat.reduceEqDiff]; (try with_reducible exact rfl)))) | ((with_reducible first | apply Run.callY | apply RunP.callY); iterate 3 (· (simp only [go_sem, reduceIte, Nat.reduceEqDiff]; (try with_reducible exact rfl)))))
  refine sound_use (order2_c f n y1 c s1 hy1 hcn hn (by omega)) [0, 1] rfl (by decide) ?_ ?_ ?_ ?_ ?_; iterate 4 (· simp [-List.map_map, embAt, nm, rn_rw, rn_ro, rn_map, rn_iter, rn_dead, renL, Val.ren, wfAll, wn_rw, wn_ro, wn_map, wn_iter, wn_dead, wfL, Val.wf, Env.get, initEnv, rC_ren, rC_wf])
  rintro v C' ⟨x2, y2, s2, hxy2, hs2, hs2', rfl, rfl⟩
  simp only [merge, place, after, nm, MG, Val.ren, renL, rn_rw, rn_ro, rn_map, rn_iter, rn_dead, reduceIte, Nat.reduceLT, Nat.reduceAdd, Nat.reduceSub, Nat.lt_irrefl, Nat.zero_lt_one, Nat.zero_lt_succ, rC_ren]
  have hx2 : x2 < n := by rcases hxy2 with ⟨h, _⟩ | ⟨h, _⟩ <;> omega
  refine GG0 ?_
  (first | ((with_reducible first | apply RunP.call | apply Run.call | apply Run.call0); iterate 2 (· (simp only [go_sem, reduceIte, Nat.reduceEqDiff]; (try with_reducible exact rfl)))) | ((with_reducible first | apply Run.callY | apply RunP.callY); iterate 3 (· (simp only [go_sem, reduceIte, Nat.reduceEqDiff]; (try with_reducible exact rfl)))))
  refine sound_use (order2_c f n x1 x2 s2 hx1 hx2 hn (by omega)) [0, 1] rfl (by decide) ?_ ?_ ?_ ?_ ?_; iterate 4 (· simp [-List.map_map, embAt, nm, rn_rw, rn_ro, rn_map, rn_iter, rn_dead, renL, Val.ren, wfAll, wn_rw, wn_ro, wn_map, wn_iter, wn_dead, wfL, Val.wf, Env.get, initEnv, rC_ren, rC_wf])
  rintro v C' ⟨x3, y3, s3, hxy3, hs3, hs3', rfl, rfl⟩
  simp only [merge, place, after, nm, MG, Val.ren, renL, rn_rw, rn_ro, rn_map, rn_iter, rn_dead, reduceIte, Nat.reduceLT, Nat.reduceAdd, Nat.reduceSub, Nat.lt_irrefl, Nat.zero_lt_one, Nat.zero_lt_succ, rC_ren]
  refine GG0 ?_
  refine told [0, 1] [.rw (rC f n), .rw [.i .i64 s3]] (.i .i64 (y3 : Nat)) ?_ (by decide) ?_ ?_ ?_ rfl ?_ ?_ ?_; iterate 6 (· simp [-List.map_map, embAt, nm, rn_rw, rn_ro, rn_map, rn_iter, rn_dead, renL, Val.ren, wfAll, wn_rw, wn_ro, wn_map, wn_iter, wn_dead, wfL, Val.wf, Env.get, initEnv, rC_ren, rC_wf])
  exact ⟨y3, s3, by omega, by omega, by omega, rfl, rfl⟩
theorem medianA_c (f : Row) (n a : Nat) (s : Int) (h1 : 1 ≤ a) (ha : a + 1 < n) (hn : n ≤ 100000) (hs : 0 ≤ s ∧ s ≤ 990) :
    SoundM Tryd.prog 2 78 [(.sl 0 0 n 3), .i .i64 (a : Nat), .p 1 0, (.fn (.func 33) [] [])] [.rw (rC f n), .rw [.i .i64 s]] (Md f n (fun x => a - 1 ≤ x ∧ x ≤ a + 1) s) := by
  refine sound_told (sound_func Tryd.func78 c78 rfl (by simp) ?_)
  simp only [e78, s78]
  have e1 : ((a : Nat) : Int) - 1 = ((a - 1 : Nat) : Int) := by omega
  have e2 : ((a : Nat) : Int) + 1 = ((a + 1 : Nat) : Int) := by omega
  (have g0 := e1; have g1 := e2; refine GG2 ?_; clear g0 g1)
  (first | ((with_reducible first | apply RunP.call | apply Run.call | apply Run.call0); iterate 2 (· (simp only [go_sem, reduceIte, Nat.reduceEqDiff]; (try with_reducible exact rfl)))) | ((with_reducible first | apply Run.callY | apply RunP.callY); iterate 3 (· (simp only [go_sem, reduceIte, Nat.reduceEqDiff]; (try with_reducible exact rfl)))))
  refine sound_use (median_c f n (a - 1) a (a + 1) s (by omega) (by omega) (by omega) hn hs) [0, 1] rfl (by decide) ?_ ?_ ?_ ?_ ?_; iterate 4 (· simp [-List.map_map, embAt, nm, rn_rw, rn_ro, rn_map, rn_iter, rn_dead, renL, Val.ren, wfAll, wn_rw, wn_ro, wn_map, wn_iter, wn_dead, wfL, Val.wf, Env.get, initEnv, rC_ren, rC_wf])
  rintro v C' ⟨x, s1, hx, hs1, hs1', rfl, rfl⟩
  simp only [merge, place, after, nm, MG, Val.ren, renL, rn_rw, rn_ro, rn_map, rn_iter, rn_dead, reduceIte, Nat.reduceLT, Nat.reduceAdd, Nat.reduceSub, Nat.lt_irrefl, Nat.zero_lt_one, Nat.zero_lt_succ, rC_ren]
  refine GG0 ?_
  refine told [0, 1] [.rw (rC f n), .rw [.i .i64 s1]] (.i .i64 (x : Nat)) ?_ (by decide) ?_ ?_ ?_ rfl ?_ ?_ ?_; iterate 6 (· simp [-List.map_map, embAt, nm, rn_rw, rn_ro, rn_map, rn_iter, rn_dead, renL, Val.ren, wfAll, wn_rw, wn_ro, wn_map, wn_iter, wn_dead, wfL, Val.wf, Env.get, initEnv, rC_ren, rC_wf])
  exact ⟨x, s1, by omega, hs1, hs1', rfl, rfl⟩
end Go.Proofs.YtmdilnelogechaaDoor.IR
namespace Go.Proofs.YtmdilnelogechaaDoor.IR
open Go Go.Proofs.YtmdilnelogechaaDoor.Ev Go.Proofs.YtmdilnelogechaaDoor.Ev.Rb Go.Proofs.YtmdilnelogechaaDoor.Ev.So
set_option linter.unusedSimpArgs false
set_option linter.unusedVariables false
set_option maxHeartbeats 4000000
attribute [local go_sem] skipV nc0 nc1 nc2 nc3 bne_self_eq_false decide_true decide_false IOp.step Opd.ev Env.get initEnv Val.cells? Val.one List.all_cons List.all_nil Bool.and_true Bool.and_self Bool.true_and bin ints eqv Val.kindNo lenNo_s lenNo_nils lenNo_sl lenNo_nilm lenNo_m lenOf_s lenOf_nils lenOf_sl lenOf_nilm unary partsOf padTo List.foldl_cons List.foldl_nil wr_nil wr_step wr_zero List.set_cons_zero List.set_cons_succ List.map_cons List.map_nil z1 z2 Nat.succ_ne_zero List.length_cons List.length_nil List.cons_append List.nil_append List.append_nil List.getElem?_cons_zero List.getElem?_cons_succ List.getElem?_nil Option.map_some Option.map_none Nat.zero_add Nat.add_zero List.drop_zero List.drop_succ_cons List.take_succ_cons List.take_zero List.take_nil and_self and_true true_and Nat.le_refl Bool.not_true Bool.not_false Option.getD_some window Val.slen bnd resV resL RV.val Bool.false_eq_true BEq.rfl Bool.true_beq Bool.false_beq beq_true beq_false mk_one ite_true ite_false eqc ceqs ceq NOp.step isK eq_self
attribute [local go_sem] nat_toNat en_all en3
def Cp (f : Row) (n a b : Nat) (v : Val) (H : Heap) : Prop := ∃ (c : Nat) (h : Int), a ≤ c ∧ c < b ∧ v = .tup [.i .i64 (c : Nat), .i .i64 h] ∧ H = [.rw (rC f n)]
theorem choose_c (f : Row) (n a b : Nat) (hab : a + 8 ≤ b) (hb : b ≤ n) (hn : n ≤ 100000) :
    SoundM Tryd.prog 1 65 [(.sl 0 0 n 3), .i .i64 (a : Nat), .i .i64 (b : Nat), (.fn (.func 33) [] [])] [.rw (rC f n)] (Cp f n a b) := by
  refine sound_told (sound_func Tryd.func65 c65 rfl (by simp) ?_)
  obtain ⟨l, rfl⟩ : ∃ l, b = a + l := ⟨b - a, by omega⟩
  have e0 : (((a + l : Nat) : Int)) - ((a : Nat) : Int) = ((l : Nat) : Int) := by omega
  have e1 : ((l : Nat) : Int) / 4 = ((l / 4 : Nat) : Int) := by omega
  obtain ⟨i, j, k, hi, hj, hk⟩ : ∃ i j k, i = a + l / 4 ∧ j = a + 2 * (l / 4) ∧ k = a + 3 * (l / 4) := ⟨_, _, _, rfl, rfl, rfl⟩
  have ei : ((a : Nat) : Int) + ((l / 4 : Nat) : Int) * 1 = (i : Nat) := by omega
  have ej : ((a : Nat) : Int) + ((l / 4 : Nat) : Int) * 2 = (j : Nat) := by omega
  have ek : ((a : Nat) : Int) + ((l / 4 : Nat) : Int) * 3 = (k : Nat) := by omega
  have hl8 : ((l : Nat) : Int) ≥ 8 := by omega
  simp only [e65, s65]
  (have g0 := e0; have g1 := e1; have g2 := ei; have g3 := ej; have g4 := ek; have g5 := decide_t hl8; refine GG6 ?_; clear g0 g1 g2 g3 g4 g5)
  refine ei_mid (M := fun ρ H => ∃ (x y z : Nat) (s : Int), a ≤ x ∧ x < a + l ∧ a ≤ y ∧ y < a + l ∧ a ≤ z ∧ z < a + l ∧ 0 ≤ s ∧ s ≤ 9 ∧ AnewS 1 [.rw (rC f n), .rw [.i .i64 s]] [(0, (.sl 0 0 n 3)), (3, (.fn (.func 33) [] [])), (11, .p 1 0), (12, .i .i64 (x : Nat)), (13, .i .i64 (y : Nat)), (14, .i .i64 (z : Nat))] ρ H) ?_ ?_
  · by_cases h50 : l ≥ 50
    · have hd : ((l : Nat) : Int) ≥ 50 := by omega
      (have g0 := decide_t hd; refine GG1 ?_; clear g0)
      (first | ((with_reducible first | apply RunP.call | apply Run.call | apply Run.call0); iterate 2 (· (simp only [go_sem, reduceIte, Nat.reduceEqDiff]; (try with_reducible exact rfl)))) | ((with_reducible first | apply Run.callY | apply RunP.callY); iterate 3 (· (simp only [go_sem, reduceIte, Nat.reduceEqDiff]; (try with_reducible exact rfl)))))
      refine sound_use (medianA_c f n i 0 (by omega) (by omega) hn (by omega)) [0, 1] rfl (by decide) ?_ ?_ ?_ ?_ ?_; iterate 4 (· simp [-List.map_map, embAt, nm, rn_rw, rn_ro, rn_map, rn_iter, rn_dead, renL, Val.ren, wfAll, wn_rw, wn_ro, wn_map, wn_iter, wn_dead, wfL, Val.wf, Env.get, initEnv, rC_ren, rC_wf])
      rintro v C' ⟨x, s1, hx, hs1, hs1', rfl, rfl⟩
      simp only [merge, place, after, nm, MG, Val.ren, renL, rn_rw, rn_ro, rn_map, rn_iter, rn_dead, reduceIte, Nat.reduceLT, Nat.reduceAdd, Nat.reduceSub, Nat.lt_irrefl, Nat.zero_lt_one, Nat.zero_lt_succ, rC_ren]
      refine GG0 ?_
      (first | ((with_reducible first | apply RunP.call | apply Run.call | apply Run.call0); iterate 2 (· (simp only [go_sem, reduceIte, Nat.reduceEqDiff]; (try with_reducible exact rfl)))) | ((with_reducible first | apply Run.callY | apply RunP.callY); iterate 3 (· (simp only [go_sem, reduceIte, Nat.reduceEqDiff]; (try with_reducible exact rfl)))))
      refine sound_use (medianA_c f n j s1 (by omega) (by omega) hn (by omega)) [0, 1] rfl (by decide) ?_ ?_ ?_ ?_ ?_; iterate 4 (· simp [-List.map_map, embAt, nm, rn_rw, rn_ro, rn_map, rn_iter, rn_dead, renL, Val.ren, wfAll, wn_rw, wn_ro, wn_map, wn_iter, wn_dead, wfL, Val.wf, Env.get, initEnv, rC_ren, rC_wf])
      rintro v C' ⟨y, s2, hy, hs2, hs2', rfl, rfl⟩
      simp only [merge, place, after, nm, MG, Val.ren, renL, rn_rw, rn_ro, rn_map, rn_iter, rn_dead, reduceIte, Nat.reduceLT, Nat.reduceAdd, Nat.reduceSub, Nat.lt_irrefl, Nat.zero_lt_one, Nat.zero_lt_succ, rC_ren]
      refine GG0 ?_
      (first | ((with_reducible first | apply RunP.call | apply Run.call | apply Run.call0); iterate 2 (· (simp only [go_sem, reduceIte, Nat.reduceEqDiff]; (try with_reducible exact rfl)))) | ((with_reducible first | apply Run.callY | apply RunP.callY); iterate 3 (· (simp only [go_sem, reduceIte, Nat.reduceEqDiff]; (try with_reducible exact rfl)))))
      refine sound_use (medianA_c f n k s2 (by omega) (by omega) hn (by omega)) [0, 1] rfl (by decide) ?_ ?_ ?_ ?_ ?_; iterate 4 (· simp [-List.map_map, embAt, nm, rn_rw, rn_ro, rn_map, rn_iter, rn_dead, renL, Val.ren, wfAll, wn_rw, wn_ro, wn_map, wn_iter, wn_dead, wfL, Val.wf, Env.get, initEnv, rC_ren, rC_wf])
      rintro v C' ⟨z, s3, hz, hs3, hs3', rfl, rfl⟩
      simp only [merge, place, after, nm, MG, Val.ren, renL, rn_rw, rn_ro, rn_map, rn_iter, rn_dead, reduceIte, Nat.reduceLT, Nat.reduceAdd, Nat.reduceSub, Nat.lt_irrefl, Nat.zero_lt_one, Nat.zero_lt_succ, rC_ren]
      refine GG0 ?_
      refine ⟨x, y, z, s3, by omega, by omega, by omega, by omega, by omega, by omega, by omega, by omega, ?_⟩
      (refine anew [0, 1] ?_ (by decide) ?_ ?_ ?_ rfl ?_ ?_ <;> simp [-List.map_map, embAt, nm, rn_rw, rn_ro, rn_map, rn_iter, rn_dead, renL, Val.ren, wfAll, wn_rw, wn_ro, wn_map, wn_iter, wn_dead, wfL, Val.wf, Env.get, initEnv, rC_ren, rC_wf])
    · have hd : ¬ ((l : Nat) : Int) ≥ 50 := by omega
      (have g0 := decide_f hd; refine GG1 ?_; clear g0)
      refine ⟨i, j, k, 0, by omega, by omega, by omega, by omega, by omega, by omega, by omega, by omega, ?_⟩
      (refine anew [0, 1] ?_ (by decide) ?_ ?_ ?_ rfl ?_ ?_ <;> simp [-List.map_map, embAt, nm, rn_rw, rn_ro, rn_map, rn_iter, rn_dead, renL, Val.ren, wfAll, wn_rw, wn_ro, wn_map, wn_iter, wn_dead, wfL, Val.wf, Env.get, initEnv, rC_ren, rC_wf])
  · rintro ρ' H' ⟨x, y, z, s, x1, x2, y1, y2, z1, z2, s1, s2, ha⟩
    refine ei_anewS ha ?_
    refine GG0 ?_
    (first | ((with_reducible first | apply RunP.call | apply Run.call | apply Run.call0); iterate 2 (· (simp only [go_sem, reduceIte, Nat.reduceEqDiff]; (try with_reducible exact rfl)))) | ((with_reducible first | apply Run.callY | apply RunP.callY); iterate 3 (· (simp only [go_sem, reduceIte, Nat.reduceEqDiff]; (try with_reducible exact rfl)))))
    refine sound_use (median_c f n x y z s (by omega) (by omega) (by omega) hn (by omega)) [0, 1] rfl (by decide) ?_ ?_ ?_ ?_ ?_; iterate 4 (· simp [-List.map_map, embAt, nm, rn_rw, rn_ro, rn_map, rn_iter, rn_dead, renL, Val.ren, wfAll, wn_rw, wn_ro, wn_map, wn_iter, wn_dead, wfL, Val.wf, Env.get, initEnv, rC_ren, rC_wf])
    rintro v C' ⟨w, s3, hw, hs3, hs3', rfl, rfl⟩
    simp only [merge, place, after, nm, MG, Val.ren, renL, rn_rw, rn_ro, rn_map, rn_iter, rn_dead, reduceIte, Nat.reduceLT, Nat.reduceAdd, Nat.reduceSub, Nat.lt_irrefl, Nat.zero_lt_one, Nat.zero_lt_succ, rC_ren]
    refine GG0 ?_
    have hwb : a ≤ w ∧ w < a + l := by omega
    by_cases h0 : s3 = 0
    · have hb0 : (s3 == 0) = true := by simp [h0]
      (have g0 := hb0; refine GG1 ?_; clear g0)
      refine told [0] [.rw (rC f n)] (.tup [.i .i64 (w : Nat), .i .i64 1]) ?_ (by decide) ?_ ?_ ?_ rfl ?_ ?_ ?_; iterate 6 (· simp [-List.map_map, embAt, nm, rn_rw, rn_ro, rn_map, rn_iter, rn_dead, renL, Val.ren, wfAll, wn_rw, wn_ro, wn_map, wn_iter, wn_dead, wfL, Val.wf, Env.get, initEnv, rC_ren, rC_wf])
      exact ⟨w, 1, hwb.1, hwb.2, rfl, rfl⟩
    · have hb0 : (s3 == 0) = false := by simpa using h0
      by_cases h12 : s3 = 12
      · have hb1 : (s3 == 12) = true := by simp [h12]
        (have g0 := hb0; have g1 := hb1; refine GG2 ?_; clear g0 g1)
        refine told [0] [.rw (rC f n)] (.tup [.i .i64 (w : Nat), .i .i64 2]) ?_ (by decide) ?_ ?_ ?_ rfl ?_ ?_ ?_; iterate 6 (· simp [-List.map_map, embAt, nm, rn_rw, rn_ro, rn_map, rn_iter, rn_dead, renL, Val.ren, wfAll, wn_rw, wn_ro, wn_map, wn_iter, wn_dead, wfL, Val.wf, Env.get, initEnv, rC_ren, rC_wf])
        exact ⟨w, 2, hwb.1, hwb.2, rfl, rfl⟩
      · have hb1 : (s3 == 12) = false := by simpa using h12
        (have g0 := hb0; have g1 := hb1; refine GG2 ?_; clear g0 g1)
        refine told [0] [.rw (rC f n)] (.tup [.i .i64 (w : Nat), .i .i64 0]) ?_ (by decide) ?_ ?_ ?_ rfl ?_ ?_ ?_; iterate 6 (· simp [-List.map_map, embAt, nm, rn_rw, rn_ro, rn_map, rn_iter, rn_dead, renL, Val.ren, wfAll, wn_rw, wn_ro, wn_map, wn_iter, wn_dead, wfL, Val.wf, Env.get, initEnv, rC_ren, rC_wf])
        exact ⟨w, 0, hwb.1, hwb.2, rfl, rfl⟩
end Go.Proofs.YtmdilnelogechaaDoor.IR
namespace Go.Proofs.YtmdilnelogechaaDoor.IR
open Go Go.Proofs.YtmdilnelogechaaDoor.Ev Go.Proofs.YtmdilnelogechaaDoor.Ev.Rb Go.Proofs.YtmdilnelogechaaDoor.Ev.So
set_option linter.unusedSimpArgs false
set_option linter.unusedVariables false
set_option maxHeartbeats 4000000
attribute [local go_sem] skipV nc0 nc1 nc2 nc3 bne_self_eq_false decide_true decide_false IOp.step Opd.ev Env.get initEnv Val.cells? Val.one List.all_cons List.all_nil Bool.and_true Bool.and_self Bool.true_and bin ints eqv Val.kindNo lenNo_s lenNo_nils lenNo_sl lenNo_nilm lenNo_m lenOf_s lenOf_nils lenOf_sl lenOf_nilm unary partsOf padTo List.foldl_cons List.foldl_nil wr_nil wr_step wr_zero List.set_cons_zero List.set_cons_succ List.map_cons List.map_nil z1 z2 Nat.succ_ne_zero List.length_cons List.length_nil List.cons_append List.nil_append List.append_nil List.getElem?_cons_zero List.getElem?_cons_succ List.getElem?_nil Option.map_some Option.map_none Nat.zero_add Nat.add_zero List.drop_zero List.drop_succ_cons List.take_succ_cons List.take_zero List.take_nil and_self and_true true_and Nat.le_refl Bool.not_true Bool.not_false Option.getD_some window Val.slen bnd resV resL RV.val Bool.false_eq_true BEq.rfl Bool.true_beq Bool.false_beq beq_true beq_false mk_one ite_true ite_false eqc ceqs ceq NOp.step isK eq_self
attribute [local go_sem] nat_toNat en_all en3
def ft2 : FT := ftOf [(50, e50, k50), (70, e70, k70), (71, e71, k71), (76, e76, k76)]
theorem ft2_ok : FtOk Tryd.prog ft2 := ftOf_ok (by
  intro x hx
  simp only [List.mem_cons, List.not_mem_nil, or_false] at hx
  rcases hx with rfl | rfl | rfl | rfl
  · exact ⟨_, _, Tryd.func50, c50⟩
  · exact ⟨_, _, Tryd.func70, c70⟩
  · exact ⟨_, _, Tryd.func71, c71⟩
  · exact ⟨_, _, Tryd.func76, c76⟩)
def L2 : Nat → Nat → Nat
  | 0, _ => 0
  | k + 1, n => if n = 0 then 0 else L2 k (n / 2) + 1
def lenOk (n : Nat) : Bool := match (call ft2 ext 60 20 50 [.i .u64 (n : Nat)] []).map (·.1) with
  | some (Val.i IntKind.i64 m) => decide (m = (L2 8 n : Nat))
  | _ => false
def npOk (n : Nat) : Bool := match (call ft2 ext 60 20 76 [.i .i64 (n : Nat)] []).map (·.1) with
  | some (Val.i IntKind.u64 m) => decide (m = (2 ^ L2 8 n : Nat)) && decide (n < 2 ^ L2 8 n) && (decide (2 ^ L2 8 n ≤ 2 * n) || decide (n = 0))
  | _ => false
theorem lens : (List.range 128).all lenOk = true := by kernel_rfl
theorem nps : (List.range 128).all npOk = true := by kernel_rfl
theorem len_ok {n : Nat} (h : n < 128) (H : Heap) : SoundCall Tryd.prog 50 [.i .u64 (n : Nat)] H (fun v H' => v = .i .i64 (L2 8 n : Nat) ∧ H' = H) := by
  have := List.all_eq_true.1 lens n (List.mem_range.2 h)
  unfold lenOk at this
  split at this
  · rename_i m hm
    have e : m = (L2 8 n : Nat) := by simpa using this
    subst e
    exact sound_run ft2_ok ext_ok rfl rfl hm H
  · cases this
theorem np_ok {n : Nat} (h : n < 128) (h0 : 0 < n) (H : Heap) : SoundCall Tryd.prog 76 [.i .i64 (n : Nat)] H (fun v H' => (∃ m : Nat, v = .i .u64 (m : Nat) ∧ n < m ∧ m ≤ 2 * n) ∧ H' = H) := by
  have := List.all_eq_true.1 nps n (List.mem_range.2 h)
  unfold npOk at this
  split at this
  · rename_i m hm
    simp only [Bool.and_eq_true, Bool.or_eq_true, decide_eq_true_eq] at this
    obtain ⟨⟨e, h1⟩, h2⟩ := this
    subst e
    refine (sound_run ft2_ok ext_ok rfl rfl hm H).mono ?_
    rintro v H' ⟨rfl, rfl⟩
    exact ⟨⟨_, rfl, h1, by omega⟩, rfl⟩
  · cases this
theorem xnext_c (r : Int) : SoundM Tryd.prog 1 77 [.p 0 0] [.rw [.i .u64 r]] (fun v H => ∃ r' : Int, v = .i .u64 r' ∧ H = [.rw [.i .u64 r']]) := by
  refine sound_told (sound_func Tryd.func77 c77 rfl (by simp) ?_)
  have key : ∀ r' : Int, Ev.Told 1 (fun v H => ∃ r' : Int, v = .i .u64 r' ∧ H = [.rw [.i .u64 r']]) (.i .u64 r') [.rw [.i .u64 r']] := by
    intro r'
    refine told [0] [.rw [.i .u64 r']] (.i .u64 r') ?_ (by decide) ?_ ?_ ?_ rfl ?_ ?_ ?_; iterate 6 (· simp [-List.map_map, embAt, nm, rn_rw, rn_ro, rn_map, rn_iter, rn_dead, renL, Val.ren, wfAll, wn_rw, wn_ro, wn_map, wn_iter, wn_dead, wfL, Val.wf, Env.get, initEnv, Val.ren])
    exact ⟨r', rfl, rfl⟩
  simp only [e77, s77]
  refine GG0 ?_
  exact key _
theorem and_lt0 (x : Int) (m : Nat) (h0 : 0 < m) (hm : m ≤ 256) : ∃ r : Nat, (((BitVec.ofInt 64 x &&& BitVec.ofInt 64 ((m : Nat) - 1 : Int)).toNat : Nat) : Int) = (r : Nat) ∧ r < m := by
  have e : ((m : Nat) : Int) - 1 = ((m - 1 : Nat) : Int) := by omega
  rw [e]
  have h1 : (BitVec.ofInt 64 x &&& BitVec.ofInt 64 ((m - 1 : Nat) : Int)).toNat ≤ m - 1 := by
    rw [BitVec.toNat_and]
    refine Nat.le_trans Nat.and_le_right ?_
    rw [BitVec.ofInt_natCast, BitVec.toNat_ofNat]
    exact Nat.mod_le _ _
  exact ⟨_, rfl, by omega⟩
theorem and_lt (x : Int) (m : Nat) (h0 : 0 < m) (hm : m ≤ 256) : ∃ r : Nat, (((@HAnd.hAnd (BitVec 64) (BitVec 64) (BitVec 64) (@instHAndOfAndOp (BitVec IntKind.u64.bits) (@BitVec.instAndOp IntKind.u64.bits)) (BitVec.ofInt 64 x) (BitVec.ofInt 64 ((m : Nat) - 1 : Int))).toNat : Nat) : Int) = (r : Nat) ∧ r < m :=
  and_lt0 x m h0 hm
def BkI (f : Row) (n a b l idx m : Nat) (k : Nat) (ρ : Env) (H : Heap) : Prop :=
  ∃ (i : Nat) (g : Row) (r : Int), idx - 1 ≤ i ∧ i ≤ idx + 2 ∧ k = idx + 2 - i ∧ Sws a b f g ∧
    AnewS 1 [.rw (rC g n), .rw [.i .u64 r]] [(0, (.sl 0 0 n 3)), (1, .i .i64 (a : Nat)), (8, .i .i64 (l : Nat)), (9, .p 1 0), (10, .i .u64 (m : Nat)), (11, .i .i64 (i : Nat))] ρ H
theorem brk_c (f : Row) (n a b : Nat) (hab : a ≤ b) (hb : b ≤ n) (hn : n < 128) :
    SoundM Tryd.prog 1 64 [(.sl 0 0 n 3), .i .i64 (a : Nat), .i .i64 (b : Nat), (.fn (.func 33) [] [])] [.rw (rC f n)] (Sw f n a b fun v _ => v = .tup []) := by
  refine sound_told (sound_func Tryd.func64 c64 rfl (by simp) ?_)
  obtain ⟨l, rfl⟩ : ∃ l, b = a + l := ⟨b - a, by omega⟩
  have e0 : (((a + l : Nat) : Int)) - ((a : Nat) : Int) = ((l : Nat) : Int) := by omega
  simp only [e64, s64]
  by_cases h8 : l ≥ 8
  · have hd : ((l : Nat) : Int) ≥ 8 := by omega
    have e1 : ((l : Nat) : Int) / 4 = ((l / 4 : Nat) : Int) := by omega
    obtain ⟨idx, hidx⟩ : ∃ idx, idx = a + (l / 4) * 2 := ⟨_, rfl⟩
    have ei : ((a : Nat) : Int) + ((l / 4 : Nat) : Int) * 2 = (idx : Nat) := by omega
    (have g0 := e0; have g1 := decide_t hd; refine GG2 ?_; clear g0 g1)
    (first | ((with_reducible first | apply RunP.call | apply Run.call | apply Run.call0); iterate 2 (· (simp only [go_sem, reduceIte, Nat.reduceEqDiff]; (try with_reducible exact rfl)))) | ((with_reducible first | apply Run.callY | apply RunP.callY); iterate 3 (· (simp only [go_sem, reduceIte, Nat.reduceEqDiff]; (try with_reducible exact rfl)))))
    refine (np_ok (n := l) (by omega) (by omega) _).mono ?_
    rintro v H' ⟨⟨m, rfl, hm1, hm2⟩, rfl⟩
    (first | refine And.intro rfl ?_ | refine And.intro trivial ?_ | skip)
    have ei1 : ((idx : Nat) : Int) - 1 = ((idx - 1 : Nat) : Int) := by omega
    have ei2 : ((idx : Nat) : Int) + 1 = ((idx + 1 : Nat) : Int) := by omega
    (have g0 := e1; have g1 := ei; have g2 := ei1; refine GG3 ?_; clear g0 g1 g2)
    refine ei_loop (BkI f n a (a + l) l idx m) (n := 3) ?_ ?_
    · refine ⟨idx - 1, f, (l : Nat), by omega, by omega, by omega, .refl, ?_⟩
      (refine anew [0, 1] ?_ (by decide) ?_ ?_ ?_ rfl ?_ ?_ <;> simp [-List.map_map, embAt, nm, rn_rw, rn_ro, rn_map, rn_iter, rn_dead, renL, Val.ren, wfAll, wn_rw, wn_ro, wn_map, wn_iter, wn_dead, wfL, Val.wf, Env.get, initEnv, rC_ren, rC_wf])
    · rintro k ρ H ⟨i, g, r, hi1, hi2, rfl, hs, ha⟩
      refine ei_anewS ha ?_
      clear ha
      have hl3 := rC_len g n
      by_cases hle : i ≤ idx + 1
      · have hd2 : ((i : Nat) : Int) ≤ ((idx + 1 : Nat) : Int) := by omega
        (have g0 := e1; have g1 := ei; have g2 := ei2; have g3 := decide_t hd2; refine GG4 ?_; clear g0 g1 g2 g3)
        (first | ((with_reducible first | apply RunP.call | apply Run.call | apply Run.call0); iterate 2 (· (simp only [go_sem, reduceIte, Nat.reduceEqDiff]; (try with_reducible exact rfl)))) | ((with_reducible first | apply Run.callY | apply RunP.callY); iterate 3 (· (simp only [go_sem, reduceIte, Nat.reduceEqDiff]; (try with_reducible exact rfl)))))
        refine sound_use (xnext_c r) [1] rfl (by decide) ?_ ?_ ?_ ?_ ?_; iterate 4 (· simp [-List.map_map, embAt, nm, rn_rw, rn_ro, rn_map, rn_iter, rn_dead, renL, Val.ren, wfAll, wn_rw, wn_ro, wn_map, wn_iter, wn_dead, wfL, Val.wf, Env.get, initEnv, Val.ren])
        rintro v C' ⟨r', rfl, rfl⟩
        simp only [merge, place, after, nm, MG, Val.ren, renL, rn_rw, rn_ro, rn_map, rn_iter, rn_dead, reduceIte, Nat.reduceLT, Nat.reduceAdd, Nat.reduceSub, Nat.lt_irrefl, Nat.zero_lt_one, Nat.zero_lt_succ, rC_ren]
        obtain ⟨o, ho, hom⟩ := and_lt r' m (by omega) (by omega)
        (have g0 := ho; refine GG1 ?_; clear g0)
        refine ei_mid (M := fun ρ H => ∃ o' : Nat, o' < l ∧ AnewS 1 [.rw (rC g n), .rw [.i .u64 r']] [(0, (.sl 0 0 n 3)), (1, .i .i64 (a : Nat)), (8, .i .i64 (l : Nat)), (9, .p 1 0), (10, .i .u64 (m : Nat)), (11, .i .i64 (i : Nat)), (12, .i .i64 (o' : Nat))] ρ H) ?_ ?_
        · by_cases hol : o ≥ l
          · have hd3 : ((o : Nat) : Int) ≥ ((l : Nat) : Int) := by omega
            have eo : ((o : Nat) : Int) - ((l : Nat) : Int) = ((o - l : Nat) : Int) := by omega
            (have g0 := decide_t hd3; have g1 := eo; refine GG2 ?_; clear g0 g1)
            refine ⟨o - l, by omega, ?_⟩
            (refine anew [0, 1] ?_ (by decide) ?_ ?_ ?_ rfl ?_ ?_ <;> simp [-List.map_map, embAt, nm, rn_rw, rn_ro, rn_map, rn_iter, rn_dead, renL, Val.ren, wfAll, wn_rw, wn_ro, wn_map, wn_iter, wn_dead, wfL, Val.wf, Env.get, initEnv, rC_ren, rC_wf])
          · have hd3 : ¬ ((o : Nat) : Int) ≥ ((l : Nat) : Int) := by omega
            (have g0 := decide_f hd3; refine GG1 ?_; clear g0)
            refine ⟨o, by omega, ?_⟩
            (refine anew [0, 1] ?_ (by decide) ?_ ?_ ?_ rfl ?_ ?_ <;> simp [-List.map_map, embAt, nm, rn_rw, rn_ro, rn_map, rn_iter, rn_dead, renL, Val.ren, wfAll, wn_rw, wn_ro, wn_map, wn_iter, wn_dead, wfL, Val.wf, Env.get, initEnv, rC_ren, rC_wf])
        · rintro ρ' H' ⟨o', ho', ha⟩
          refine ei_anewS ha ?_
          have eo : ((a : Nat) : Int) + ((o' : Nat) : Int) = ((a + o' : Nat) : Int) := by omega
          have e3 : ((i : Nat) : Int) + 1 = ((i + 1 : Nat) : Int) := by omega
          have hil : i < n := by omega
          have hol : a + o' < n := by omega
          (have g0 := eo; have g1 := e3; have g2 := fun qf => rC_get (f := qf) hil; have g3 := fun qf => rC_get (f := qf) hol; have g4 := fun qf q0 => rC_wr (f := qf) q0 hil; have g5 := fun qf q0 => rC_wr (f := qf) q0 hol; have g6 := rC_len; refine GG7 ?_; clear g0 g1 g2 g3 g4 g5 g6)
          have hsw : rC (So.upd (So.upd g i (g (a + o'))) (a + o') (g i)) n = rC (swp g i (a + o')) n := rfl
          rw [hsw]
          refine ⟨idx + 2 - (i + 1), by omega, i + 1, swp g i (a + o'), r', by omega, by omega, rfl, .swap i (a + o') hs ⟨by omega, by omega⟩ ⟨by omega, by omega⟩, ?_⟩
          (refine anew [0, 1] ?_ (by decide) ?_ ?_ ?_ rfl ?_ ?_ <;> simp [-List.map_map, embAt, nm, rn_rw, rn_ro, rn_map, rn_iter, rn_dead, renL, Val.ren, wfAll, wn_rw, wn_ro, wn_map, wn_iter, wn_dead, wfL, Val.wf, Env.get, initEnv, rC_ren, rC_wf])
      · have hd2 : ¬ ((i : Nat) : Int) ≤ ((idx + 1 : Nat) : Int) := by omega
        (have g0 := e1; have g1 := ei; have g2 := ei2; have g3 := decide_f hd2; refine GG4 ?_; clear g0 g1 g2 g3)
        refine told [0] [.rw (rC g n)] (.tup []) ?_ (by decide) ?_ ?_ ?_ rfl ?_ ?_ ?_; iterate 6 (· simp [-List.map_map, embAt, nm, rn_rw, rn_ro, rn_map, rn_iter, rn_dead, renL, Val.ren, wfAll, wn_rw, wn_ro, wn_map, wn_iter, wn_dead, wfL, Val.wf, Env.get, initEnv, rC_ren, rC_wf])
        exact ⟨g, hs, rfl, rfl⟩
  · have hd : ¬ ((l : Nat) : Int) ≥ 8 := by omega
    (have g0 := e0; have g1 := decide_f hd; refine GG2 ?_; clear g0 g1)
    refine told [0] [.rw (rC f n)] (.tup []) ?_ (by decide) ?_ ?_ ?_ rfl ?_ ?_ ?_; iterate 6 (· simp [-List.map_map, embAt, nm, rn_rw, rn_ro, rn_map, rn_iter, rn_dead, renL, Val.ren, wfAll, wn_rw, wn_ro, wn_map, wn_iter, wn_dead, wfL, Val.wf, Env.get, initEnv, rC_ren, rC_wf])
    exact ⟨f, .refl, rfl, rfl⟩
end Go.Proofs.YtmdilnelogechaaDoor.IR
