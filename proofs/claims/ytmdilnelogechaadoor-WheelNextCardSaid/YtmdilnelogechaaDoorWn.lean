/- This text of a proof shows: the law 'WheelNext'. -/
import Derived.Test.YtmdilnelogechaaDoorGg
import Derived.Test.YtmdilnelogechaaDoorWj
import Derived.Test.YtmdilnelogechaaDoorWk
import Derived.Test.YtmdilnelogechaaDoorWm
set_option linter.unusedVariables false
set_option linter.unusedSimpArgs false
set_option linter.constructorNameAsVariable false
namespace Go.Proofs.YtmdilnelogechaaDoor.IR
open Go Go.Proofs.YtmdilnelogechaaDoor.Ev Go.Proofs.YtmdilnelogechaaDoor.Ev.Rb Go.Proofs.YtmdilnelogechaaDoor.Ev.Wh Go.Proofs.YtmdilnelogechaaDoor.Ext Go.Proofs.YtmdilnelogechaaDoorW.PrintWords
set_option linter.unusedSimpArgs false
set_option linter.unusedVariables false
set_option maxHeartbeats 4000000
attribute [local go_sem] skipV nc0 nc1 nc2 nc3 bne_self_eq_false decide_true decide_false IOp.step Opd.ev Env.get initEnv Val.cells? Val.one List.all_cons List.all_nil Bool.and_true Bool.and_self Bool.true_and bin ints eqv Val.kindNo lenNo_s lenNo_nils lenNo_sl lenNo_nilm lenNo_m lenOf_s lenOf_nils lenOf_sl lenOf_nilm unary partsOf padTo List.foldl_cons List.foldl_nil wr_nil wr_step wr_zero List.set_cons_zero List.set_cons_succ List.map_cons List.map_nil z1 z2 Nat.succ_ne_zero List.length_cons List.length_nil List.cons_append List.nil_append List.append_nil List.getElem?_cons_zero List.getElem?_cons_succ List.getElem?_nil Option.map_some Option.map_none Nat.zero_add Nat.add_zero List.drop_zero List.drop_succ_cons List.take_succ_cons List.take_zero List.take_nil and_self and_true true_and Nat.le_refl Bool.not_true Bool.not_false Option.getD_some window Val.slen bnd resV resL RV.val Bool.false_eq_true BEq.rfl Bool.true_beq Bool.false_beq beq_true beq_false mk_one ite_true ite_false eqc ceqs ceq NOp.step isK eq_self
attribute [local go_sem] gV_no
attribute [local go_sem] nat_toNat getC setC
theorem next_slot {s : Ws} {m w nx : Nat} (hc : s.c ≤ m) (hw : s.w = w) (hw1 : 0 < w) (hm : nx = m * w) : max s.c (nx / s.w) = m := by
  rw [hw, hm, Nat.mul_div_cancel _ hw1]
  omega
/-- Ahead of the next slot nothing comes out. -/
theorem next_ahead {s s' : Ws} {T : Tl} {l : List Th} {t m : Nat} (hT : WT s T) (hall : ∀ z ∈ T, m ≤ z.2) (ht : t < m) (hp : l.Perm ((T.filter fun y => y.2 ≤ t).map (·.1))) (hA : AdvP s T t l s') : l = [] ∧ WT s' T ∧ s'.wt = s.wt := by
  have e1 : (T.filter fun y => y.2 ≤ t) = [] := List.filter_eq_nil_iff.2 fun y hy => by have := hall y hy; simp; omega
  have e2 : (T.filter fun y => t < y.2) = T := List.filter_eq_self.2 fun y hy => by have := hall y hy; simp; omega
  rw [e1] at hp
  obtain rfl : l = [] := hp.eq_nil
  have h1 := hA.wT
  have h2 := hA.wt
  rw [e2] at h1
  refine ⟨rfl, ?_, by simpa [dueL] using h2⟩
  simpa [again, farL] using h1
/-- Behind the next slot: all that waits begins later. -/
theorem next_last {s s2 : Ws} {T : Tl} {l : List Th} {m nx w : Nat} (hT : WT s T) (hok : WOk s2) (hA : AdvP s T m l s2) (hs : 0 < s.wt) (hw1 : 0 < w) (hw2 : s.w = w) (hm : nx = m * w) (hnx : nx < 18446744073709551615) (hw : s.w = w) :
    s2.wt + (dueL m l).length = s.wt ∧ (∀ y ∈ (T.filter fun y => m < y.2) ++ again s.S m (farL m l), nx < satN (y.2 * s2.w)) ∧ (s2.wt = 0 → 0 < (dueL m l).length) := by
  have h2 := hA.wt
  obtain ⟨f1, f2, f3, f4, f5⟩ := hA.same
  refine ⟨h2, fun y hy => ?_, fun h => by omega⟩
  have hmm : m ≤ m * w := Nat.le_mul_of_pos_right _ hw1
  have hS := hok.S2
  have hy1 : m + 1 ≤ y.2 := by
    rcases List.mem_append.1 hy with hy | hy
    · have := (List.mem_filter.1 hy).2
      simp at this; omega
    · obtain ⟨x, hx, rfl⟩ := List.mem_map.1 hy
      have := (List.mem_filter.1 hx).2
      simp at this
      show m + 1 ≤ stC s.S m x.1
      unfold stC satN
      omega
  have h3 : (m + 1) * w ≤ y.2 * w := Nat.mul_le_mul_right _ hy1
  rw [Nat.add_mul] at h3
  rw [f2, hw]
  unfold satN
  omega
def NxI (l : List Op3) (a3 : Int) (S w : Nat) (o : GO) (k : Nat) (n : Nat) (ρ : Env) (H : Heap) : Prop :=
  ∃ (i : Nat) (R : Heap) (wid : Nat) (s : Ws) (T : Tl), i ≤ k ∧ n = k - i ∧ H = .ro (o3C l) :: R ∧ LW [.ro (o3C l)] R wid s [] ∧ WT s T ∧ s.S = S ∧ s.w = w ∧ s.wt + s.due.length ≤ i ∧ s.put ≤ i ∧
    Kp [(3, .i .u64 a3), (9, .p wid 0), (10, .i .u64 (w : Nat)), (34, gV o 0 k 3), (35, .i .i64 (k : Nat)), (36, .i .i64 (i : Nat))] ρ
theorem WheelNext_sound (a0 : Int) (a1 : Int) (l2 : List (Int × Int × Int)) (sv2 : Val) (a3 : Int)
    (w0 : (Lit.int .u8 a0).wf = true) (w1 : (Lit.int .u16 a1).wf = true) (s2 : SlArg sv2 0 l2.length 3) (m2 : l2.length ≤ maxLen) (e2 : ∀ x ∈ l2, (Lit.int .u8 x.1).wf = true ∧ (Lit.int .u64 x.2.1).wf = true ∧ (Lit.int .u64 x.2.2).wf = true) (w3 : (Lit.int .u64 a3).wf = true) :
    SoundM Tryd.prog 1 4 [.i .u8 a0, .i .u16 a1, sv2, .i .u64 a3] [.ro (l2.flatMap fun x => [.i .u8 x.1, .i .u64 x.2.1, .i .u64 x.2.2])] (fun v _ => v = .b true) := by
  obtain ⟨o, ho, hn, rfl⟩ := slO s2
  have ra0 : 0 ≤ a0 ∧ a0 ≤ 255 := by simpa [Lit.wf, IntKind.has, IntKind.min, IntKind.max, IntKind.bits, IntKind.signed] using w0
  have ra1 : 0 ≤ a1 ∧ a1 ≤ 65535 := by simpa [Lit.wf, IntKind.has, IntKind.min, IntKind.max, IntKind.bits, IntKind.signed] using w1
  have ra3 : 0 ≤ a3 ∧ a3 ≤ 18446744073709551615 := by simpa [Lit.wf, IntKind.has, IntKind.min, IntKind.max, IntKind.bits, IntKind.signed] using w3
  have hml : l2.length ≤ 9223372036854775807 := Nat.le_trans m2 (by decide)
  have rl : ∀ x ∈ l2, 0 ≤ x.2.2 ∧ x.2.2 ≤ 18446744073709551615 := fun x hx => by
    have := (e2 x hx).2.2
    simpa [Lit.wf, IntKind.has, IntKind.min, IntKind.max, IntKind.bits, IntKind.signed] using this
  show SoundM _ _ _ _ [.ro (o3C l2)] _
  refine (sound_func Tryd.func4 c4 rfl (by simp) ?_)
  have hmin : mxs true (.i .i64 ((l2.length : Nat) : Int)) [.i .i64 60] = some (.i .i64 ((min l2.length 60 : Nat) : Int)) := by
    rcases Nat.le_total l2.length 60 with h | h
    · rw [mn_lo (by omega), Nat.min_eq_left h]
    · rw [mn_hi (by omega), Nat.min_eq_right h]; rfl
  obtain ⟨k, hk, hk60, hkl⟩ : ∃ k, k = min l2.length 60 ∧ k ≤ 60 ∧ k ≤ l2.length := ⟨_, rfl, by omega, by omega⟩
  rw [← hk] at hmin
  clear hk
  simp only [e4, mvT, opT, onT, unT, clT]
  obtain ⟨S, hS⟩ : ∃ S : Nat, S = 2 + (a0 % 64).toNat := ⟨_, rfl⟩
  obtain ⟨w, hw⟩ : ∃ w : Nat, w = 1 + (a1 % 1000).toNat := ⟨_, rfl⟩
  have hS1 : 2 ≤ S := by omega
  have hS2 : S ≤ 65 := by omega
  have hwpos : 0 < w := by omega
  have hw1000 : w ≤ 1000 := by omega
  refine GG0 ?_
  (first | ((with_reducible first | apply RunP.call | apply Run.call | apply Run.call0); iterate 2 (· (simp only [go_sem, reduceIte, Nat.reduceEqDiff]; (try with_reducible exact rfl)))) | ((with_reducible first | apply Run.callY | apply RunP.callY); iterate 3 (· (simp only [go_sem, reduceIte, Nat.reduceEqDiff]; (try with_reducible exact rfl)))))
  refine (made_c _ a0 a1 S w ra0 ra1 hS hw).mono ?_
  rintro v H' ⟨R, wid, rfl, rfl, hLW⟩
  simp only [List.cons_append, List.nil_append]
  clear hS hw
  (have g0 := gV_len hn; have g1 := hmin; refine GG2 ?_; clear g0 g1)
  refine Aa (gSlic (o := o) (id := 0) (n := l2.length) (k := k) (by (simp only [go_sem, reduceIte, Nat.reduceEqDiff]; (try with_reducible exact rfl))) ho hn (by (simp only [go_sem, reduceIte, Nat.reduceEqDiff]; (try with_reducible exact rfl))) hkl) ?_
  have hnk : o = none → k = 0 := fun e => by have := hn e; omega
  (have g0 := gV_len hnk; refine GG1 ?_; clear g0)
  refine ei_loop (NxI l2 a3 S w o k) (n := k) ?_ ?_
  · refine ⟨0, R, wid, _, [], by omega, rfl, rfl, hLW, WT.init hS1, rfl, rfl, by simp [Wd.init], Nat.le_refl _, ?_⟩
    simp [Kp, Env.get, initEnv]
  · clear hLW R wid
    rintro n ρ H ⟨i, R, wid, s, T, hi, rfl, rfl, hLW, hT, hsS, hsw, hle, hsp, hρ⟩
    refine ei_few _ hρ ?_
    clear hρ
    by_cases hik : i = k
    · subst hik
      have hz : ¬ (((i : Nat) : Int) < ((i : Nat) : Int)) := by omega
      (have g0 := decide_f hz; refine GG1 ?_; clear g0)
      (first | ((with_reducible first | apply RunP.call | apply Run.call | apply Run.call0); iterate 2 (· (simp only [go_sem, reduceIte, Nat.reduceEqDiff]; (try with_reducible exact rfl)))) | ((with_reducible first | apply Run.callY | apply RunP.callY); iterate 3 (· (simp only [go_sem, reduceIte, Nat.reduceEqDiff]; (try with_reducible exact rfl)))))
      refine (hLW.call (fun W hW => next_w s [] W hW T hT) rfl hq1).mono ?_
      rintro v H' ⟨R1, v0, W1, ι1, rfl, ⟨hnx, hW1⟩, rfl, hback, _⟩
      have hLW1 := hback _ _ hW1
      clear hback hW1 hLW
      rcases hnx with ⟨hw0, rfl⟩ | ⟨m, hw0, ⟨y0, hy0, hym⟩, hmall, rfl⟩
      · have hd : ¬ (((s.wt : Nat) : Int) > 0) := by omega
        simp only [Val.ren, renL, List.cons_append, List.nil_append]
        refine GG0 ?_
        (first | ((with_reducible first | apply RunP.call | apply Run.call | apply Run.call0); iterate 2 (· (simp only [go_sem, reduceIte, Nat.reduceEqDiff]; (try with_reducible exact rfl)))) | ((with_reducible first | apply Run.callY | apply RunP.callY); iterate 3 (· (simp only [go_sem, reduceIte, Nat.reduceEqDiff]; (try with_reducible exact rfl)))))
        refine (hLW1.call waits_w rfl hq1).mono ?_
        rintro v H' ⟨R2, v0, W1, ι1, rfl, ⟨rfl, hW1⟩, rfl, hback, _⟩
        simp only [Val.ren, List.cons_append, List.nil_append]
        (have g0 := decide_f hd; refine GG1 ?_; clear g0)
        (first | ((with_reducible first | apply RunP.call | apply Run.call | apply Run.call0); iterate 2 (· (simp only [go_sem, reduceIte, Nat.reduceEqDiff]; (try with_reducible exact rfl)))) | ((with_reducible first | apply Run.callY | apply RunP.callY); iterate 3 (· (simp only [go_sem, reduceIte, Nat.reduceEqDiff]; (try with_reducible exact rfl)))))
        refine (awake_sound _).mono ?_
        rintro v H' ⟨rfl, rfl⟩
        refine GG0 ?_
        rfl
      · have hd : (((s.wt : Nat) : Int) > 0) := by omega
        rw [Val.ren, renL, Val.ren]
        obtain ⟨nx, hnx⟩ : ∃ nx, nx = satN (m * s.w) := ⟨_, rfl⟩
        rw [← hnx]
        have hnle : nx ≤ 18446744073709551615 := by unfold satN at hnx; omega
        simp only [Val.ren, renL, List.cons_append, List.nil_append]
        refine GG0 ?_
        (first | ((with_reducible first | apply RunP.call | apply Run.call | apply Run.call0); iterate 2 (· (simp only [go_sem, reduceIte, Nat.reduceEqDiff]; (try with_reducible exact rfl)))) | ((with_reducible first | apply Run.callY | apply RunP.callY); iterate 3 (· (simp only [go_sem, reduceIte, Nat.reduceEqDiff]; (try with_reducible exact rfl)))))
        refine (hLW1.call waits_w rfl hq1).mono ?_
        rintro v H' ⟨R2, v0, W1, ι1, rfl, ⟨rfl, hW1⟩, rfl, hback, _⟩
        have hLW2 := hback _ _ hW1
        clear hback hW1 hLW1
        simp only [Val.ren, List.cons_append, List.nil_append]
        by_cases n0 : nx = 0
        · have hb : (((nx : Nat) : Int) == 0) = true := by rw [n0]; rfl
          (have g0 := decide_t hd; have g1 := hb; refine GG2 ?_; clear g0 g1)
          (first | ((with_reducible first | apply RunP.call | apply Run.call | apply Run.call0); iterate 2 (· (simp only [go_sem, reduceIte, Nat.reduceEqDiff]; (try with_reducible exact rfl)))) | ((with_reducible first | apply Run.callY | apply RunP.callY); iterate 3 (· (simp only [go_sem, reduceIte, Nat.reduceEqDiff]; (try with_reducible exact rfl)))))
          refine (awake_sound _).mono ?_
          rintro v H' ⟨rfl, rfl⟩
          refine GG0 ?_
          rfl
        have hb0 : (((nx : Nat) : Int) == 0) = false := beq_false_of_ne (by omega)
        by_cases n1 : nx = 18446744073709551615
        · have hb : (((nx : Nat) : Int) == 18446744073709551615) = true := by rw [n1]; rfl
          (have g0 := decide_t hd; have g1 := hb0; have g2 := hb; refine GG3 ?_; clear g0 g1 g2)
          (first | ((with_reducible first | apply RunP.call | apply Run.call | apply Run.call0); iterate 2 (· (simp only [go_sem, reduceIte, Nat.reduceEqDiff]; (try with_reducible exact rfl)))) | ((with_reducible first | apply Run.callY | apply RunP.callY); iterate 3 (· (simp only [go_sem, reduceIte, Nat.reduceEqDiff]; (try with_reducible exact rfl)))))
          refine (awake_sound _).mono ?_
          rintro v H' ⟨rfl, rfl⟩
          refine GG0 ?_
          rfl
        have hb1 : (((nx : Nat) : Int) == 18446744073709551615) = false := beq_false_of_ne (by omega)
        have hmw : nx = m * w := by rw [hsw] at hnx; unfold satN at hnx; omega
        clear hnx
        (have g0 := decide_t hd; have g1 := hb0; have g2 := hb1; refine GG3 ?_; clear g0 g1 g2)
        (first | ((with_reducible first | apply RunP.call | apply Run.call | apply Run.call0); iterate 2 (· (simp only [go_sem, reduceIte, Nat.reduceEqDiff]; (try with_reducible exact rfl)))) | ((with_reducible first | apply Run.callY | apply RunP.callY); iterate 3 (· (simp only [go_sem, reduceIte, Nat.reduceEqDiff]; (try with_reducible exact rfl)))))
        refine (hLW2.call cursor_w rfl hq1).mono ?_
        rintro v H' ⟨R3, v0, W1, ι1, rfl, ⟨rfl, hW1⟩, rfl, hback, _⟩
        have hLW3 := hback _ _ hW1
        clear hback hW1 hLW2
        simp only [Val.ren, List.cons_append, List.nil_append]
        refine GG0 ?_
        (first | ((with_reducible first | apply RunP.call | apply Run.call | apply Run.call0); iterate 2 (· (simp only [go_sem, reduceIte, Nat.reduceEqDiff]; (try with_reducible exact rfl)))) | ((with_reducible first | apply Run.callY | apply RunP.callY); iterate 3 (· (simp only [go_sem, reduceIte, Nat.reduceEqDiff]; (try with_reducible exact rfl)))))
        refine (begin_ok s.c w hLW3.ok.c (by omega) (by omega) _).mono ?_
        rintro v H' ⟨rfl, rfl⟩
        (first | refine And.intro rfl ?_ | refine And.intro trivial ?_ | skip)
        obtain ⟨B, hB⟩ : ∃ B, B = satN (s.c * w) := ⟨_, rfl⟩
        rw [← hB]
        have hBle : B ≤ 18446744073709551615 := by unfold satN at hB; omega
        by_cases hBn : B < nx
        · have hgt : ((nx : Nat) : Int) > ((B : Nat) : Int) := by omega
          have hcm : s.c < m := by
            rcases Nat.lt_or_ge s.c m with h | h
            · exact h
            · have := Nat.mul_le_mul_right w h
              unfold satN at hB; omega
          obtain ⟨q, rfl⟩ : ∃ q : Nat, a3 = (q : Nat) := ⟨a3.toNat, by omega⟩
          have hmod : q % nx < nx := Nat.mod_lt _ (by omega)
          have e7 : ((q : Nat) : Int).tmod ((nx : Nat) : Int) = ((q % nx : Nat) : Int) := by rw [tmodN _ _ (by omega) (by omega), Int.toNat_natCast]
          have hnz : ¬ ((nx : Nat) : Int) = 0 := by omega
          obtain ⟨t0, ht0⟩ : ∃ t0, t0 = nx - 1 - q % nx := ⟨_, rfl⟩
          have e8 : ((nx : Nat) : Int) - 1 - ((q % nx : Nat) : Int) = ((t0 : Nat) : Int) := by omega
          have htm : t0 / w < m := Nat.div_lt_of_lt_mul (by rw [Nat.mul_comm]; omega)
          have h00 : ((0 : Int) != 0) = false := rfl
          (have g0 := decide_t hgt; have g1 := e7; have g2 := e8; refine GG3 ?_; clear g0 g1 g2)
          (first | ((with_reducible first | apply RunP.call | apply Run.call | apply Run.call0); iterate 2 (· (simp only [go_sem, reduceIte, Nat.reduceEqDiff]; (try with_reducible exact rfl)))) | ((with_reducible first | apply Run.callY | apply RunP.callY); iterate 3 (· (simp only [go_sem, reduceIte, Nat.reduceEqDiff]; (try with_reducible exact rfl)))))
          refine (hLW3.call (fun W hW => adv_c s [] W hW T hT t0 (by omega) (by omega)) rfl (by rintro v W' ⟨l, s', _, _, _, h, _⟩; exact ⟨_, _, h⟩)).mono ?_
          rintro v H' ⟨R3a, v0, W1, ι, rfl, ⟨l, s1, hp, _, rfl, hWH, hA⟩, rfl, hback, _⟩
          rw [hsw] at hp hA
          obtain ⟨rfl, hT1, hwt1⟩ := next_ahead hT hmall (by omega) hp hA
          obtain ⟨f1, f2, f3, f4, f5⟩ := hA.same
          have hc1 : s1.c ≤ m := by omega
          have hw1 : s1.w = w := by omega
          clear hLW3
          have hLW3 := hback _ _ hWH
          clear hback hWH hA hp
          simp only [Val.ren, dueL, List.filter_nil, List.length_nil, Int.natCast_zero, List.cons_append, List.nil_append]
          (have g0 := h00; refine GG1 ?_; clear g0)
          refine GG0 ?_
          (first | ((with_reducible first | apply RunP.call | apply Run.call | apply Run.call0); iterate 2 (· (simp only [go_sem, reduceIte, Nat.reduceEqDiff]; (try with_reducible exact rfl)))) | ((with_reducible first | apply Run.callY | apply RunP.callY); iterate 3 (· (simp only [go_sem, reduceIte, Nat.reduceEqDiff]; (try with_reducible exact rfl)))))
          refine (hLW3.call waits_w rfl hq1).mono ?_
          rintro v H' ⟨R4, v0, W1, ι1, rfl, ⟨rfl, hW1⟩, rfl, hback, _⟩
          have hLW4 := hback _ _ hW1
          clear hback hW1
          simp only [Val.ren, List.cons_append, List.nil_append]
          refine GG0 ?_
          (first | ((with_reducible first | apply RunP.call | apply Run.call | apply Run.call0); iterate 2 (· (simp only [go_sem, reduceIte, Nat.reduceEqDiff]; (try with_reducible exact rfl)))) | ((with_reducible first | apply Run.callY | apply RunP.callY); iterate 3 (· (simp only [go_sem, reduceIte, Nat.reduceEqDiff]; (try with_reducible exact rfl)))))
          refine (hLW4.call (fun W hW => adv_c s1 [] W hW T hT1 nx (by omega) (by omega)) rfl (by rintro v W' ⟨l, s', _, _, _, h, _⟩; exact ⟨_, _, h⟩)).mono ?_
          rintro v H' ⟨R5, v0, W1, ι, rfl, ⟨l, s2, _, _, rfl, hWH, hA⟩, rfl, hback, _⟩
          have hLW5 := hback _ _ hWH
          rw [next_slot hc1 hw1 hwpos hmw] at hA ⊢
          clear hback hWH hLW4
          obtain ⟨hmany, hmw2, hnone⟩ := next_last hT1 hLW5.ok (s2 := s2) (l := l) hA (by omega) (by omega) (by omega) hmw (by omega) hw1
          have hT2 := hA.wT
          clear hA
          generalize (dueL m l).length = many at hmany hnone
          simp only [Val.ren, List.cons_append, List.nil_append]
          refine GG0 ?_
          (first | ((with_reducible first | apply RunP.call | apply Run.call | apply Run.call0); iterate 2 (· (simp only [go_sem, reduceIte, Nat.reduceEqDiff]; (try with_reducible exact rfl)))) | ((with_reducible first | apply Run.callY | apply RunP.callY); iterate 3 (· (simp only [go_sem, reduceIte, Nat.reduceEqDiff]; (try with_reducible exact rfl)))))
          refine (hLW5.call (fun W hW => next_w s2 [] W hW _ hT2) rfl hq1).mono ?_
          rintro v H' ⟨R6, v0, W1, ι1, rfl, ⟨hnx2, hW1⟩, rfl, hback, _⟩
          have hLW6 := hback _ _ hW1
          clear hback hW1
          have esub : ((s1.wt : Nat) : Int) - ((many : Nat) : Int) = ((s2.wt : Nat) : Int) := by omega
          have eqq : (((s2.wt : Nat) : Int) == ((s2.wt : Nat) : Int)) = true := beq_self_eq_true _
          rcases hnx2 with ⟨hz2, rfl⟩ | ⟨m2, hz2, ⟨y2, hy2, rfl⟩, _, rfl⟩
          · have hmp : ((many : Nat) : Int) > 0 := by omega
            simp only [Val.ren, renL, List.cons_append, List.nil_append]
            (have g0 := decide_t hmp; refine GG1 ?_; clear g0)
            (first | ((with_reducible first | apply RunP.call | apply Run.call | apply Run.call0); iterate 2 (· (simp only [go_sem, reduceIte, Nat.reduceEqDiff]; (try with_reducible exact rfl)))) | ((with_reducible first | apply Run.callY | apply RunP.callY); iterate 3 (· (simp only [go_sem, reduceIte, Nat.reduceEqDiff]; (try with_reducible exact rfl)))))
            refine (hLW6.call waits_w rfl hq1).mono ?_
            rintro v H' ⟨R7, v0, W1, ι1, rfl, ⟨rfl, hW1⟩, rfl, hback, _⟩
            simp only [Val.ren, List.cons_append, List.nil_append]
            (have g0 := esub; have g1 := eqq; refine GG2 ?_; clear g0 g1)
            (first | ((with_reducible first | apply RunP.call | apply Run.call | apply Run.call0); iterate 2 (· (simp only [go_sem, reduceIte, Nat.reduceEqDiff]; (try with_reducible exact rfl)))) | ((with_reducible first | apply Run.callY | apply RunP.callY); iterate 3 (· (simp only [go_sem, reduceIte, Nat.reduceEqDiff]; (try with_reducible exact rfl)))))
            refine (awake_sound _).mono ?_
            rintro v H' ⟨rfl, rfl⟩
            refine GG0 ?_
            rfl
          · have hlat := hmw2 y2 hy2
            rw [Val.ren, renL, Val.ren]
            generalize satN (y2.2 * s2.w) = lat at hlat ⊢
            have hlat2 : ((lat : Nat) : Int) > ((nx : Nat) : Int) := by omega
            by_cases hm0 : many = 0
            · have hmp : ¬ ((many : Nat) : Int) > 0 := by omega
              simp only [Val.ren, renL, List.cons_append, List.nil_append]
              (have g0 := decide_f hmp; have g1 := decide_t hlat2; refine GG2 ?_; clear g0 g1)
              (first | ((with_reducible first | apply RunP.call | apply Run.call | apply Run.call0); iterate 2 (· (simp only [go_sem, reduceIte, Nat.reduceEqDiff]; (try with_reducible exact rfl)))) | ((with_reducible first | apply Run.callY | apply RunP.callY); iterate 3 (· (simp only [go_sem, reduceIte, Nat.reduceEqDiff]; (try with_reducible exact rfl)))))
              refine (hLW6.call waits_w rfl hq1).mono ?_
              rintro v H' ⟨R7, v0, W1, ι1, rfl, ⟨rfl, hW1⟩, rfl, hback, _⟩
              simp only [Val.ren, List.cons_append, List.nil_append]
              (have g0 := esub; have g1 := eqq; refine GG2 ?_; clear g0 g1)
              (first | ((with_reducible first | apply RunP.call | apply Run.call | apply Run.call0); iterate 2 (· (simp only [go_sem, reduceIte, Nat.reduceEqDiff]; (try with_reducible exact rfl)))) | ((with_reducible first | apply Run.callY | apply RunP.callY); iterate 3 (· (simp only [go_sem, reduceIte, Nat.reduceEqDiff]; (try with_reducible exact rfl)))))
              refine (awake_sound _).mono ?_
              rintro v H' ⟨rfl, rfl⟩
              refine GG0 ?_
              rfl
            · have hmp : ((many : Nat) : Int) > 0 := by omega
              simp only [Val.ren, renL, List.cons_append, List.nil_append]
              (have g0 := decide_t hmp; have g1 := decide_t hlat2; refine GG2 ?_; clear g0 g1)
              (first | ((with_reducible first | apply RunP.call | apply Run.call | apply Run.call0); iterate 2 (· (simp only [go_sem, reduceIte, Nat.reduceEqDiff]; (try with_reducible exact rfl)))) | ((with_reducible first | apply Run.callY | apply RunP.callY); iterate 3 (· (simp only [go_sem, reduceIte, Nat.reduceEqDiff]; (try with_reducible exact rfl)))))
              refine (hLW6.call waits_w rfl hq1).mono ?_
              rintro v H' ⟨R7, v0, W1, ι1, rfl, ⟨rfl, hW1⟩, rfl, hback, _⟩
              simp only [Val.ren, List.cons_append, List.nil_append]
              (have g0 := esub; have g1 := eqq; refine GG2 ?_; clear g0 g1)
              (first | ((with_reducible first | apply RunP.call | apply Run.call | apply Run.call0); iterate 2 (· (simp only [go_sem, reduceIte, Nat.reduceEqDiff]; (try with_reducible exact rfl)))) | ((with_reducible first | apply Run.callY | apply RunP.callY); iterate 3 (· (simp only [go_sem, reduceIte, Nat.reduceEqDiff]; (try with_reducible exact rfl)))))
              refine (awake_sound _).mono ?_
              rintro v H' ⟨rfl, rfl⟩
              refine GG0 ?_
              rfl
        · have hgt : ¬ ((nx : Nat) : Int) > ((B : Nat) : Int) := by omega
          have hT1 := hT
          have hw1 : s.w = w := hsw
          have hc1 : s.c ≤ m := by
            have h2 := hT.rt.lo y0 hy0
            omega
          (have g0 := decide_f hgt; refine GG1 ?_; clear g0)
          refine GG0 ?_
          (first | ((with_reducible first | apply RunP.call | apply Run.call | apply Run.call0); iterate 2 (· (simp only [go_sem, reduceIte, Nat.reduceEqDiff]; (try with_reducible exact rfl)))) | ((with_reducible first | apply Run.callY | apply RunP.callY); iterate 3 (· (simp only [go_sem, reduceIte, Nat.reduceEqDiff]; (try with_reducible exact rfl)))))
          refine (hLW3.call waits_w rfl hq1).mono ?_
          rintro v H' ⟨R4, v0, W1, ι1, rfl, ⟨rfl, hW1⟩, rfl, hback, _⟩
          have hLW4 := hback _ _ hW1
          clear hback hW1
          simp only [Val.ren, List.cons_append, List.nil_append]
          refine GG0 ?_
          (first | ((with_reducible first | apply RunP.call | apply Run.call | apply Run.call0); iterate 2 (· (simp only [go_sem, reduceIte, Nat.reduceEqDiff]; (try with_reducible exact rfl)))) | ((with_reducible first | apply Run.callY | apply RunP.callY); iterate 3 (· (simp only [go_sem, reduceIte, Nat.reduceEqDiff]; (try with_reducible exact rfl)))))
          refine (hLW4.call (fun W hW => adv_c s [] W hW T hT1 nx (by omega) (by omega)) rfl (by rintro v W' ⟨l, s', _, _, _, h, _⟩; exact ⟨_, _, h⟩)).mono ?_
          rintro v H' ⟨R5, v0, W1, ι, rfl, ⟨l, s2, _, _, rfl, hWH, hA⟩, rfl, hback, _⟩
          have hLW5 := hback _ _ hWH
          rw [next_slot hc1 hw1 hwpos hmw] at hA ⊢
          clear hback hWH hLW4
          obtain ⟨hmany, hmw2, hnone⟩ := next_last hT1 hLW5.ok (s2 := s2) (l := l) hA (by omega) (by omega) (by omega) hmw (by omega) hw1
          have hT2 := hA.wT
          clear hA
          generalize (dueL m l).length = many at hmany hnone
          simp only [Val.ren, List.cons_append, List.nil_append]
          refine GG0 ?_
          (first | ((with_reducible first | apply RunP.call | apply Run.call | apply Run.call0); iterate 2 (· (simp only [go_sem, reduceIte, Nat.reduceEqDiff]; (try with_reducible exact rfl)))) | ((with_reducible first | apply Run.callY | apply RunP.callY); iterate 3 (· (simp only [go_sem, reduceIte, Nat.reduceEqDiff]; (try with_reducible exact rfl)))))
          refine (hLW5.call (fun W hW => next_w s2 [] W hW _ hT2) rfl hq1).mono ?_
          rintro v H' ⟨R6, v0, W1, ι1, rfl, ⟨hnx2, hW1⟩, rfl, hback, _⟩
          have hLW6 := hback _ _ hW1
          clear hback hW1
          have esub : ((s.wt : Nat) : Int) - ((many : Nat) : Int) = ((s2.wt : Nat) : Int) := by omega
          have eqq : (((s2.wt : Nat) : Int) == ((s2.wt : Nat) : Int)) = true := beq_self_eq_true _
          rcases hnx2 with ⟨hz2, rfl⟩ | ⟨m2, hz2, ⟨y2, hy2, rfl⟩, _, rfl⟩
          · have hmp : ((many : Nat) : Int) > 0 := by omega
            simp only [Val.ren, renL, List.cons_append, List.nil_append]
            (have g0 := decide_t hmp; refine GG1 ?_; clear g0)
            (first | ((with_reducible first | apply RunP.call | apply Run.call | apply Run.call0); iterate 2 (· (simp only [go_sem, reduceIte, Nat.reduceEqDiff]; (try with_reducible exact rfl)))) | ((with_reducible first | apply Run.callY | apply RunP.callY); iterate 3 (· (simp only [go_sem, reduceIte, Nat.reduceEqDiff]; (try with_reducible exact rfl)))))
            refine (hLW6.call waits_w rfl hq1).mono ?_
            rintro v H' ⟨R7, v0, W1, ι1, rfl, ⟨rfl, hW1⟩, rfl, hback, _⟩
            simp only [Val.ren, List.cons_append, List.nil_append]
            (have g0 := esub; have g1 := eqq; refine GG2 ?_; clear g0 g1)
            (first | ((with_reducible first | apply RunP.call | apply Run.call | apply Run.call0); iterate 2 (· (simp only [go_sem, reduceIte, Nat.reduceEqDiff]; (try with_reducible exact rfl)))) | ((with_reducible first | apply Run.callY | apply RunP.callY); iterate 3 (· (simp only [go_sem, reduceIte, Nat.reduceEqDiff]; (try with_reducible exact rfl)))))
            refine (awake_sound _).mono ?_
            rintro v H' ⟨rfl, rfl⟩
            refine GG0 ?_
            rfl
          · have hlat := hmw2 y2 hy2
            rw [Val.ren, renL, Val.ren]
            generalize satN (y2.2 * s2.w) = lat at hlat ⊢
            have hlat2 : ((lat : Nat) : Int) > ((nx : Nat) : Int) := by omega
            by_cases hm0 : many = 0
            · have hmp : ¬ ((many : Nat) : Int) > 0 := by omega
              simp only [Val.ren, renL, List.cons_append, List.nil_append]
              (have g0 := decide_f hmp; have g1 := decide_t hlat2; refine GG2 ?_; clear g0 g1)
              (first | ((with_reducible first | apply RunP.call | apply Run.call | apply Run.call0); iterate 2 (· (simp only [go_sem, reduceIte, Nat.reduceEqDiff]; (try with_reducible exact rfl)))) | ((with_reducible first | apply Run.callY | apply RunP.callY); iterate 3 (· (simp only [go_sem, reduceIte, Nat.reduceEqDiff]; (try with_reducible exact rfl)))))
              refine (hLW6.call waits_w rfl hq1).mono ?_
              rintro v H' ⟨R7, v0, W1, ι1, rfl, ⟨rfl, hW1⟩, rfl, hback, _⟩
              simp only [Val.ren, List.cons_append, List.nil_append]
              (have g0 := esub; have g1 := eqq; refine GG2 ?_; clear g0 g1)
              (first | ((with_reducible first | apply RunP.call | apply Run.call | apply Run.call0); iterate 2 (· (simp only [go_sem, reduceIte, Nat.reduceEqDiff]; (try with_reducible exact rfl)))) | ((with_reducible first | apply Run.callY | apply RunP.callY); iterate 3 (· (simp only [go_sem, reduceIte, Nat.reduceEqDiff]; (try with_reducible exact rfl)))))
              refine (awake_sound _).mono ?_
              rintro v H' ⟨rfl, rfl⟩
              refine GG0 ?_
              rfl
            · have hmp : ((many : Nat) : Int) > 0 := by omega
              simp only [Val.ren, renL, List.cons_append, List.nil_append]
              (have g0 := decide_t hmp; have g1 := decide_t hlat2; refine GG2 ?_; clear g0 g1)
              (first | ((with_reducible first | apply RunP.call | apply Run.call | apply Run.call0); iterate 2 (· (simp only [go_sem, reduceIte, Nat.reduceEqDiff]; (try with_reducible exact rfl)))) | ((with_reducible first | apply Run.callY | apply RunP.callY); iterate 3 (· (simp only [go_sem, reduceIte, Nat.reduceEqDiff]; (try with_reducible exact rfl)))))
              refine (hLW6.call waits_w rfl hq1).mono ?_
              rintro v H' ⟨R7, v0, W1, ι1, rfl, ⟨rfl, hW1⟩, rfl, hback, _⟩
              simp only [Val.ren, List.cons_append, List.nil_append]
              (have g0 := esub; have g1 := eqq; refine GG2 ?_; clear g0 g1)
              (first | ((with_reducible first | apply RunP.call | apply Run.call | apply Run.call0); iterate 2 (· (simp only [go_sem, reduceIte, Nat.reduceEqDiff]; (try with_reducible exact rfl)))) | ((with_reducible first | apply Run.callY | apply RunP.callY); iterate 3 (· (simp only [go_sem, reduceIte, Nat.reduceEqDiff]; (try with_reducible exact rfl)))))
              refine (awake_sound _).mono ?_
              rintro v H' ⟨rfl, rfl⟩
              refine GG0 ?_
              rfl
    · have hz : (((i : Nat) : Int) < ((k : Nat) : Int)) := by omega
      obtain ⟨x, hx⟩ : ∃ x, l2[i]? = some x := ⟨l2[i], List.getElem?_eq_getElem (by omega)⟩
      rcases x with ⟨x1, x2, x3⟩
      obtain ⟨hx1, hx2⟩ := o3_win hx
      obtain ⟨t, rfl⟩ : ∃ t : Nat, x3 = (t : Nat) := ⟨x3.toNat, by have := (rl _ (List.mem_of_getElem? hx)).1; simp at this; omega⟩
      have ht2 : t ≤ 18446744073709551615 := by have := (rl _ (List.mem_of_getElem? hx)).2; simp at this; omega
      rcases ho with rfl | rfl
      · exact absurd (hnk rfl) (by omega)
      simp only [gV_new, o3] at hx1 ⊢
      (have g0 := decide_t hz; have g1 := hx1; refine GG2 ?_; clear g0 g1)
      have hLWb := hLW.push [.rw [.i .u8 x1, .i .u64 x2, .i .u64 (t : Nat)]]
      have hSp : 0 < s.S := by omega
      have hok := hLW.ok
      have ei : ((i : Nat) : Int) + 1 = ((i + 1 : Nat) : Int) := rfl
      by_cases h1 : x1 = 1
      · subst h1
        have hb : ((1 : Int) == 1) = true := rfl
        (have g0 := hb; refine GG1 ?_; clear g0)
        (first | ((with_reducible first | apply RunP.call | apply Run.call | apply Run.call0); iterate 2 (· (simp only [go_sem, reduceIte, Nat.reduceEqDiff]; (try with_reducible exact rfl)))) | ((with_reducible first | apply Run.callY | apply RunP.callY); iterate 3 (· (simp only [go_sem, reduceIte, Nat.reduceEqDiff]; (try with_reducible exact rfl)))))
        refine (hLWb.call (fun W hW => put_c s [] W hW x2 t ht2 (by have := hT.slots hSp (q := stP s (slotN t s.w : Nat)) (Nat.mod_lt _ hSp); omega) (by omega)) rfl (by rintro v W' (⟨_, _, h⟩ | ⟨_, _, h⟩) <;> exact ⟨_, _, h⟩)).mono ?_
        rintro v H' ⟨R', v0, W', ι, rfl, hq, rfl, hback, _⟩
        simp only [List.cons_append, List.nil_append]
        rcases hq with ⟨hfull, rfl, hWH⟩ | ⟨hfree, rfl, hWH⟩
        · simp only [Val.ren]
          (have g0 := ei; refine GG1 ?_; clear g0)
          refine ⟨k - (i + 1), by omega, i + 1, R', wid, s, T, by omega, rfl, rfl, hback _ _ hWH, hT, hsS, hsw, by omega, by omega, ?_⟩
          simp [Kp, Env.get, gV_new]
        · simp only [Val.ren]
          (have g0 := ei; refine GG1 ?_; clear g0)
          refine ⟨k - (i + 1), by omega, i + 1, R', wid, put1 s x2 t, T ++ tlP s x2 t, by omega, rfl, rfl, hback _ _ hWH, hT.put hok ht2 hfree, hsS, hsw, ?_, ?_, ?_⟩
          · show s.wt + 1 + s.due.length ≤ i + 1; omega
          · show s.put + 1 ≤ i + 1; omega
          · simp [Kp, Env.get, gV_new]
      · have hb1 : (x1 == 1) = false := by simpa using h1
        by_cases h2 : x1 = 2
        · subst h2
          have hb : ((2 : Int) == 1) = false := rfl
          have hb' : ((2 : Int) == 2) = true := rfl
          (have g0 := hb; have g1 := hb'; refine GG2 ?_; clear g0 g1)
          (first | ((with_reducible first | apply RunP.call | apply Run.call | apply Run.call0); iterate 2 (· (simp only [go_sem, reduceIte, Nat.reduceEqDiff]; (try with_reducible exact rfl)))) | ((with_reducible first | apply Run.callY | apply RunP.callY); iterate 3 (· (simp only [go_sem, reduceIte, Nat.reduceEqDiff]; (try with_reducible exact rfl)))))
          refine (hLWb.call (fun W hW => adv_c s [] W hW T hT t ht2 (by omega)) rfl (by rintro v W' ⟨l, s', _, _, _, h, _⟩; exact ⟨_, _, h⟩)).mono ?_
          rintro v H' ⟨R', v0, W', ι, rfl, ⟨l, s', hp, hso, rfl, hWH, hA⟩, rfl, hback, _⟩
          simp only [List.cons_append, List.nil_append]
          (have g0 := ei; refine GG1 ?_; clear g0)
          obtain ⟨g1, g2, g3, g4, g5⟩ := hA.same
          have g6 := hA.wt
          have g7 := congrArg List.length hA.due
          simp only [List.length_append, vs, List.length_map] at g7
          refine ⟨k - (i + 1), by omega, i + 1, R', wid, s', _, by omega, rfl, rfl, hback _ _ hWH, hA.wT, by omega, by omega, by omega, by omega, ?_⟩
          simp [Kp, Env.get, gV_new]
        · have hb2 : (x1 == 2) = false := by simpa using h2
          (have g0 := hb1; have g1 := hb2; have g2 := ei; refine GG3 ?_; clear g0 g1 g2)
          refine ⟨k - (i + 1), by omega, i + 1, _, wid, s, T, by omega, rfl, rfl, hLWb, hT, hsS, hsw, by omega, by omega, ?_⟩
          simp [Kp, Env.get, gV_new]
end Go.Proofs.YtmdilnelogechaaDoor.IR
