/- This text of a proof shows: the law 'WheelJump'. -/
import Derived.Test.YtmdilnelogechaaDoorGg
import Derived.Test.YtmdilnelogechaaDoorWj
import Derived.Test.YtmdilnelogechaaDoorWk
set_option linter.unusedVariables false
set_option linter.unusedSimpArgs false
set_option linter.constructorNameAsVariable false
namespace Go.Proofs.YtmdilnelogechaaDoor.IR
open Go Go.Proofs.YtmdilnelogechaaDoor.Ev Go.Proofs.YtmdilnelogechaaDoor.Ev.Rb Go.Proofs.YtmdilnelogechaaDoor.Ev.Wh Go.Proofs.YtmdilnelogechaaDoor.Ext Go.Proofs.YtmdilnelogechaaDoorW.PrintWords
set_option linter.unusedSimpArgs false
set_option linter.unusedVariables false
set_option maxHeartbeats 4000000
attribute [local go_sem] skipV nc0 nc1 nc2 nc3 bne_self_eq_false decide_true decide_false IOp.step Opd.ev Env.get initEnv Val.cells? Val.one List.all_cons List.all_nil Bool.and_true Bool.and_self Bool.true_and bin ints eqv Val.kindNo lenNo_s lenNo_nils lenNo_sl lenNo_nilm lenNo_m lenOf_s lenOf_nils lenOf_sl lenOf_nilm unary partsOf padTo List.foldl_cons List.foldl_nil wr_nil wr_step wr_zero List.set_cons_zero List.set_cons_succ List.map_cons List.map_nil z1 z2 Nat.succ_ne_zero List.length_cons List.length_nil List.cons_append List.nil_append List.append_nil List.getElem?_cons_zero List.getElem?_cons_succ List.getElem?_nil Option.map_some Option.map_none Nat.zero_add Nat.add_zero List.drop_zero List.drop_succ_cons List.take_succ_cons List.take_zero List.take_nil and_self and_true true_and Nat.le_refl Bool.not_true Bool.not_false Option.getD_some window Val.slen bnd resV resL RV.val Bool.false_eq_true BEq.rfl Bool.true_beq Bool.false_beq beq_true beq_false mk_one ite_true ite_false eqc ceqs ceq NOp.step isK eq_self
attribute [local go_sem] gV_no
attribute [local go_sem] nat_toNat getC setC Nat.mul_one mxM
def n6C (l : List Int) : List Val := l.flatMap fun x => [Val.i .u64 x]
theorem n6_get : ∀ (l : List Int) (i : Nat), (n6C l)[i]? = (l[i]?).map (Val.i .u64)
  | [], _ => rfl
  | x :: l, 0 => rfl
  | x :: l, i + 1 => by simpa [n6C] using n6_get l i
/-- All that waits is as it was put, and stands not further on than its slot. -/
structure Put0 (s : Ws) (T : Tl) (S w n : Nat) : Prop where
  wt : WT s T
  up : ∀ y ∈ T, (y.2 : Int) ≤ max y.1.1 (s.c : Nat)
  st : s.S = S ∧ s.w = w ∧ s.room = 200 ∧ s.c = 0 ∧ s.due = [] ∧ s.wt = n ∧ s.put = n
theorem Put0.init {S w : Nat} (hS : 2 ≤ S) : Put0 (Wd.init S w 200) [] S w 0 := ⟨WT.init hS, by simp, rfl, rfl, rfl, rfl, rfl, rfl, rfl⟩
theorem Put0.put {s : Ws} {T : Tl} {S w n : Nat} (h : Put0 s T S w n) (hk : WOk s) (v : Int) {t : Nat} (ht : t ≤ 18446744073709551615) (hn : n < 200) : Put0 (put1 s v t) (T ++ tlP s v t) S w (n + 1) := by
  obtain ⟨g1, g2, g3, g4, g5, g6, g7⟩ := h.st
  refine ⟨h.wt.put hk ht (by rw [g5, g6, g3]; simp; omega), fun y hy => ?_, g1, g2, g3, g4, g5, ?_, ?_⟩
  · rcases List.mem_append.1 hy with hy | hy
    · exact h.up y hy
    · simp only [tlP, List.mem_singleton] at hy
      subst hy
      exact stC_up _ _ _ (by show (0 : Int) ≤ (slotN t s.w : Nat); omega)
  · show s.wt + 1 = n + 1; omega
  · show s.put + 1 = n + 1; omega
theorem Put0.ps {s : Ws} {T : Tl} {S w n : Nat} (h : Put0 s T S w n) : PS s T [] (T.map (·.1)) := ⟨h.wt, h.up, h.st.2.2.2.2.1, .nil, .refl _, by simp, by simp⟩
def JpA (l2 l3 : List Int) (o3 : GO) (S w : Nat) (o : GO) (k : Nat) (n : Nat) (ρ : Env) (H : Heap) : Prop :=
  ∃ (i : Nat) (R : Heap) (w1 w2 : Nat) (s : Ws) (T : Tl), i ≤ k ∧ n = k - i ∧ H = .ro (n6C l2) :: .ro (n6C l3) :: R ∧ LW2 [.ro (n6C l2), .ro (n6C l3)] R w1 s w2 s ∧ Put0 s T S w i ∧
    Kp [(3, gV o3 1 l3.length 1), (9, .p w1 0), (12, .p w2 0), (48, gV o 0 k 1), (49, .i .i64 (k : Nat)), (50, .i .i64 (i : Nat))] ρ
def JpB (l2 l3 : List Int) (o3 : GO) (w : Nat) (s : Ws) (T : Tl) (k : Nat) (n : Nat) (ρ : Env) (H : Heap) : Prop :=
  ∃ (i : Nat) (R : Heap) (w1 w2 : Nat) (sb : Ws) (Tb : Tl) (d : List Th) (last : Nat), i ≤ k ∧ n = k - i ∧ H = .ro (n6C l2) :: .ro (n6C l3) :: R ∧ LW2 [.ro (n6C l2), .ro (n6C l3)] R w1 s w2 sb ∧ PS sb Tb d (T.map (·.1)) ∧ last ≤ 18446744073709551615 ∧ sb.c ≤ last / w ∧ sb.w = w ∧
    sb.wt + sb.due.length = s.wt ∧
    Kp [(9, .p w1 0), (12, .p w2 0), (17, .i .u64 (last : Nat)), (74, gV o3 1 k 1), (75, .i .i64 (k : Nat)), (76, .i .i64 (i : Nat))] ρ
def JpC (l2 l3 : List Int) (k : Nat) (n : Nat) (ρ : Env) (H : Heap) : Prop :=
  ∃ (i : Nat) (R : Heap) (w1 w2 : Nat) (sa sb : Ws), i ≤ k ∧ n = k - i ∧ H = .ro (n6C l2) :: .ro (n6C l3) :: R ∧ LW2 [.ro (n6C l2), .ro (n6C l3)] R w1 sa w2 sb ∧ sa.due = sb.due ∧ sa.due.length = k - i ∧
    Kp [(9, .p w1 0), (12, .p w2 0), (113, .i .i64 (k : Nat)), (114, .i .i64 (i : Nat))] ρ
theorem WheelJump_sound (a0 : Int) (a1 : Int) (l2 : List (Int)) (sv2 : Val) (l3 : List (Int)) (sv3 : Val)
    (w0 : (Lit.int .u8 a0).wf = true) (w1 : (Lit.int .u16 a1).wf = true) (s2 : SlArg sv2 0 l2.length 1) (m2 : l2.length ≤ maxLen) (e2 : ∀ x ∈ l2, (Lit.int .u64 x).wf = true) (s3 : SlArg sv3 1 l3.length 1) (m3 : l3.length ≤ maxLen) (e3 : ∀ x ∈ l3, (Lit.int .u64 x).wf = true) :
    SoundM Tryd.prog 2 6 [.i .u8 a0, .i .u16 a1, sv2, sv3] [.ro (l2.flatMap fun x => [.i .u64 x]), .ro (l3.flatMap fun x => [.i .u64 x])] (fun v _ => v = .b true) := by
  obtain ⟨o, ho, hn, rfl⟩ := slO s2
  obtain ⟨o3, ho3, hn3, rfl⟩ := slO s3
  have ra0 : 0 ≤ a0 ∧ a0 ≤ 255 := by simpa [Lit.wf, IntKind.has, IntKind.min, IntKind.max, IntKind.bits, IntKind.signed] using w0
  have ra1 : 0 ≤ a1 ∧ a1 ≤ 65535 := by simpa [Lit.wf, IntKind.has, IntKind.min, IntKind.max, IntKind.bits, IntKind.signed] using w1
  have rl : ∀ x ∈ l2, 0 ≤ x ∧ x ≤ 18446744073709551615 := fun x hx => by
    have := e2 x hx
    simpa [Lit.wf, IntKind.has, IntKind.min, IntKind.max, IntKind.bits, IntKind.signed] using this
  have rl3 : ∀ x ∈ l3, 0 ≤ x ∧ x ≤ 18446744073709551615 := fun x hx => by
    have := e3 x hx
    simpa [Lit.wf, IntKind.has, IntKind.min, IntKind.max, IntKind.bits, IntKind.signed] using this
  show SoundM _ _ _ _ [.ro (n6C l2), .ro (n6C l3)] _
  refine (sound_func Tryd.func6 c6 rfl (by simp) ?_)
  have hmin : ∀ n : Nat, mxs true (.i .i64 ((n : Nat) : Int)) [.i .i64 40] = some (.i .i64 ((min n 40 : Nat) : Int)) := fun n => by
    rcases Nat.le_total n 40 with h | h
    · rw [mn_lo (by omega), Nat.min_eq_left h]
    · rw [mn_hi (by omega), Nat.min_eq_right h]; rfl
  have hmin2 := hmin l2.length
  have hmin3 := hmin l3.length
  obtain ⟨k, hk, hk40, hkl⟩ : ∃ k, k = min l2.length 40 ∧ k ≤ 40 ∧ k ≤ l2.length := ⟨_, rfl, by omega, by omega⟩
  obtain ⟨k3, hk3, hk340, hk3l⟩ : ∃ k, k = min l3.length 40 ∧ k ≤ 40 ∧ k ≤ l3.length := ⟨_, rfl, by omega, by omega⟩
  rw [← hk] at hmin2
  rw [← hk3] at hmin3
  clear hk hk3 hmin
  simp only [e6, mvT, opT, onT, unT, clT]
  obtain ⟨S, hS⟩ : ∃ S : Nat, S = 2 + (a0 % 64).toNat := ⟨_, rfl⟩
  obtain ⟨w, hw⟩ : ∃ w : Nat, w = 1 + (a1 % 1000).toNat := ⟨_, rfl⟩
  have hS1 : 2 ≤ S := by omega
  have hS2 : S ≤ 65 := by omega
  have hw1 : 1 ≤ w := by omega
  refine GG0 ?_
  (first | ((with_reducible first | apply RunP.call | apply Run.call | apply Run.call0); iterate 2 (· (simp only [go_sem, reduceIte, Nat.reduceEqDiff]; (try with_reducible exact rfl)))) | ((with_reducible first | apply Run.callY | apply RunP.callY); iterate 3 (· (simp only [go_sem, reduceIte, Nat.reduceEqDiff]; (try with_reducible exact rfl)))))
  refine (made_c _ a0 a1 S w ra0 ra1 hS hw).mono ?_
  rintro v H' ⟨R1, w1, rfl, rfl, hL1⟩
  refine GG0 ?_
  (first | ((with_reducible first | apply RunP.call | apply Run.call | apply Run.call0); iterate 2 (· (simp only [go_sem, reduceIte, Nat.reduceEqDiff]; (try with_reducible exact rfl)))) | ((with_reducible first | apply Run.callY | apply RunP.callY); iterate 3 (· (simp only [go_sem, reduceIte, Nat.reduceEqDiff]; (try with_reducible exact rfl)))))
  refine (made_c _ a0 a1 S w ra0 ra1 hS hw).mono ?_
  rintro v H' ⟨R2, w2, rfl, rfl, hL2⟩
  have hLW := LW2.of hL1 hL2
  clear hL1 hL2
  simp only [List.cons_append, List.nil_append]
  generalize R1 ++ R2 = R at hLW
  (have g0 := gV_len hn; have g1 := hmin2; refine GG2 ?_; clear g0 g1)
  refine Aa (gSlic (o := o) (id := 0) (n := l2.length) (k := k) (by (simp only [go_sem, reduceIte, Nat.reduceEqDiff]; (try with_reducible exact rfl))) ho hn (by (simp only [go_sem, reduceIte, Nat.reduceEqDiff]; (try with_reducible exact rfl))) hkl) ?_
  have hnk : o = none → k = 0 := fun e => by have := hn e; omega
  (have g0 := gV_len hnk; refine GG1 ?_; clear g0)
  refine ei_loop (JpA l2 l3 o3 S w o k) (n := k) ?_ ?_
  · refine ⟨0, R, w1, w2, _, [], by omega, rfl, rfl, hLW, Put0.init hS1, ?_⟩
    simp [Kp, Env.get, initEnv]
  · clear hLW R w1 w2 hw hS
    rintro n ρ H ⟨i, R, w1, w2, s, T, hi, rfl, rfl, hLW, hP, hρ⟩
    refine ei_few _ hρ ?_
    clear hρ
    obtain ⟨g1, g2, g3, g4, g5, g6, g7⟩ := hP.st
    by_cases hik : i = k
    · subst hik
      have hz : ¬ (((i : Nat) : Int) < ((i : Nat) : Int)) := by omega
      (have g0 := decide_f hz; have g1 := gV_len hn3; have g2 := hmin3; refine GG3 ?_; clear g0 g1 g2)
      refine Aa (gSlic (o := o3) (id := 1) (n := l3.length) (k := k3) (by (simp only [go_sem, reduceIte, Nat.reduceEqDiff]; (try with_reducible exact rfl))) ho3 hn3 (by (simp only [go_sem, reduceIte, Nat.reduceEqDiff]; (try with_reducible exact rfl))) hk3l) ?_
      have hnk3 : o3 = none → k3 = 0 := fun e => by have := hn3 e; omega
      (have g0 := gV_len hnk3; refine GG1 ?_; clear g0)
      refine ei_loop (JpB l2 l3 o3 w s T k3) (n := k3) ?_ ?_
      · refine ⟨0, R, w1, w2, s, T, [], 0, by omega, rfl, rfl, hLW, hP.ps, by omega, by rw [g4]; exact Nat.zero_le _, g2, by rw [g5]; simp, ?_⟩
        simp [Kp, Env.get]
      · clear hLW R w1 w2
        rintro n ρ H ⟨j, R, w1, w2, sb, Tb, d, last, hj, rfl, rfl, hLW, hB, hlast, hcb, hwb, hsum, hρ⟩
        refine ei_few _ hρ ?_
        clear hρ
        by_cases hjk : j = k3
        · subst hjk
          have hz3 : ¬ (((j : Nat) : Int) < ((j : Nat) : Int)) := by omega
          (have g0 := decide_f hz3; refine GG1 ?_; clear g0)
          (first | ((with_reducible first | apply RunP.call | apply Run.call | apply Run.call0); iterate 2 (· (simp only [go_sem, reduceIte, Nat.reduceEqDiff]; (try with_reducible exact rfl)))) | ((with_reducible first | apply Run.callY | apply RunP.callY); iterate 3 (· (simp only [go_sem, reduceIte, Nat.reduceEqDiff]; (try with_reducible exact rfl)))))
          refine (hLW.call (fun W hW => adv_c s [] W hW T hP.wt last hlast (by omega)) rfl (by rintro v W' ⟨l, s', _, _, _, h, _⟩; exact ⟨_, _, h⟩)).mono ?_
          rintro v H' ⟨R1, v0, W1, ι, rfl, ⟨la, sa, hp, hso, rfl, hWH, hA⟩, rfl, hback⟩
          have hLWa := (hback _ hWH).swap
          clear hback hWH hLW
          obtain ⟨hPa, hla⟩ := hP.ps.adv (Nat.le_max_left _ _) hp hso hA
          have hca := hA.same.2.2.1
          clear hp hso hA
          rw [g4, g2, Nat.zero_max] at hca
          simp only [List.cons_append, List.nil_append]
          refine GG0 ?_
          (first | ((with_reducible first | apply RunP.call | apply Run.call | apply Run.call0); iterate 2 (· (simp only [go_sem, reduceIte, Nat.reduceEqDiff]; (try with_reducible exact rfl)))) | ((with_reducible first | apply Run.callY | apply RunP.callY); iterate 3 (· (simp only [go_sem, reduceIte, Nat.reduceEqDiff]; (try with_reducible exact rfl)))))
          refine (hLWa.call (fun W hW => adv_c sb [] W hW Tb hB.wt last hlast (by omega)) rfl (by rintro v W' ⟨l, s', _, _, _, h, _⟩; exact ⟨_, _, h⟩)).mono ?_
          rintro v H' ⟨R2, v0, W1, ι, rfl, ⟨lb, sc, hp, hso, rfl, hWH, hA⟩, rfl, hback⟩
          have hLW1 := (hback _ hWH).swap
          clear hback hWH hLWa
          obtain ⟨hPb, hlb⟩ := hB.adv (Nat.le_max_left _ _) hp hso hA
          have hcc := hA.same.2.2.1
          clear hp hso hA
          rw [hwb, Nat.max_eq_right hcb] at hcc
          have hceq : sa.c = sc.c := by rw [hca, hcc]
          obtain ⟨hdd, hww⟩ := hPa.same hPb hceq (fun y hy => by
            have := hla y hy
            rw [g4, g2, Nat.zero_max] at this
            rw [hca]; exact this) (fun y hy => by
            have := hlb y hy
            rw [hwb, Nat.max_eq_right hcb] at this
            rw [hcc]; exact this)
          have hdue : sa.due = sc.due := by rw [hPa.due, hPb.due, hdd]
          clear hPa hPb hla hlb hB hP
          have hq0 : ∀ x : Int, (x != x) = false := fun x => bne_self_eq_false x
          simp only [List.cons_append, List.nil_append]
          refine GG0 ?_
          (first | ((with_reducible first | apply RunP.call | apply Run.call | apply Run.call0); iterate 2 (· (simp only [go_sem, reduceIte, Nat.reduceEqDiff]; (try with_reducible exact rfl)))) | ((with_reducible first | apply Run.callY | apply RunP.callY); iterate 3 (· (simp only [go_sem, reduceIte, Nat.reduceEqDiff]; (try with_reducible exact rfl)))))
          refine (hLW1.call due_w rfl hq1).mono ?_
          rintro v H' ⟨R3, v0, W1, ι1, rfl, ⟨rfl, hW1⟩, rfl, hback⟩
          have hLW2 := (hback _ hW1).swap
          clear hback hW1 hLW1
          simp only [Val.ren, List.cons_append, List.nil_append]
          refine GG0 ?_
          (first | ((with_reducible first | apply RunP.call | apply Run.call | apply Run.call0); iterate 2 (· (simp only [go_sem, reduceIte, Nat.reduceEqDiff]; (try with_reducible exact rfl)))) | ((with_reducible first | apply Run.callY | apply RunP.callY); iterate 3 (· (simp only [go_sem, reduceIte, Nat.reduceEqDiff]; (try with_reducible exact rfl)))))
          refine (hLW2.call due_w rfl hq1).mono ?_
          rintro v H' ⟨R4, v0, W1, ι1, rfl, ⟨rfl, hW1⟩, rfl, hback⟩
          have hLW3 := (hback _ hW1).swap
          clear hback hW1 hLW2
          simp only [Val.ren, List.cons_append, List.nil_append]
          rw [← hdue]
          (have g0 := hq0; refine GG1 ?_; clear g0)
          (first | ((with_reducible first | apply RunP.call | apply Run.call | apply Run.call0); iterate 2 (· (simp only [go_sem, reduceIte, Nat.reduceEqDiff]; (try with_reducible exact rfl)))) | ((with_reducible first | apply Run.callY | apply RunP.callY); iterate 3 (· (simp only [go_sem, reduceIte, Nat.reduceEqDiff]; (try with_reducible exact rfl)))))
          refine (hLW3.call waits_w rfl hq1).mono ?_
          rintro v H' ⟨R5, v0, W1, ι1, rfl, ⟨rfl, hW1⟩, rfl, hback⟩
          have hLW4 := (hback _ hW1).swap
          clear hback hW1 hLW3
          simp only [Val.ren, List.cons_append, List.nil_append]
          refine GG0 ?_
          (first | ((with_reducible first | apply RunP.call | apply Run.call | apply Run.call0); iterate 2 (· (simp only [go_sem, reduceIte, Nat.reduceEqDiff]; (try with_reducible exact rfl)))) | ((with_reducible first | apply Run.callY | apply RunP.callY); iterate 3 (· (simp only [go_sem, reduceIte, Nat.reduceEqDiff]; (try with_reducible exact rfl)))))
          refine (hLW4.call waits_w rfl hq1).mono ?_
          rintro v H' ⟨R6, v0, W1, ι1, rfl, ⟨rfl, hW1⟩, rfl, hback⟩
          have hLW5 := (hback _ hW1).swap
          clear hback hW1 hLW4
          simp only [Val.ren, List.cons_append, List.nil_append]
          rw [← hww]
          (have g0 := hq0; refine GG1 ?_; clear g0)
          (first | ((with_reducible first | apply RunP.call | apply Run.call | apply Run.call0); iterate 2 (· (simp only [go_sem, reduceIte, Nat.reduceEqDiff]; (try with_reducible exact rfl)))) | ((with_reducible first | apply Run.callY | apply RunP.callY); iterate 3 (· (simp only [go_sem, reduceIte, Nat.reduceEqDiff]; (try with_reducible exact rfl)))))
          refine (hLW5.call cursor_w rfl hq1).mono ?_
          rintro v H' ⟨R7, v0, W1, ι1, rfl, ⟨rfl, hW1⟩, rfl, hback⟩
          have hLW6 := (hback _ hW1).swap
          clear hback hW1 hLW5
          simp only [Val.ren, List.cons_append, List.nil_append]
          refine GG0 ?_
          (first | ((with_reducible first | apply RunP.call | apply Run.call | apply Run.call0); iterate 2 (· (simp only [go_sem, reduceIte, Nat.reduceEqDiff]; (try with_reducible exact rfl)))) | ((with_reducible first | apply Run.callY | apply RunP.callY); iterate 3 (· (simp only [go_sem, reduceIte, Nat.reduceEqDiff]; (try with_reducible exact rfl)))))
          refine (hLW6.call cursor_w rfl hq1).mono ?_
          rintro v H' ⟨R8, v0, W1, ι1, rfl, ⟨rfl, hW1⟩, rfl, hback⟩
          have hLW7 := (hback _ hW1).swap
          clear hback hW1 hLW6
          simp only [Val.ren, List.cons_append, List.nil_append]
          rw [← hceq]
          (have g0 := hq0; refine GG1 ?_; clear g0)
          (first | ((with_reducible first | apply RunP.call | apply Run.call | apply Run.call0); iterate 2 (· (simp only [go_sem, reduceIte, Nat.reduceEqDiff]; (try with_reducible exact rfl)))) | ((with_reducible first | apply Run.callY | apply RunP.callY); iterate 3 (· (simp only [go_sem, reduceIte, Nat.reduceEqDiff]; (try with_reducible exact rfl)))))
          refine (hLW7.call due_w rfl hq1).mono ?_
          rintro v H' ⟨R9, v0, W1, ι1, rfl, ⟨rfl, hW1⟩, rfl, hback⟩
          have hLW8 := hback _ hW1
          clear hback hW1 hLW7
          simp only [Val.ren, List.cons_append, List.nil_append]
          refine GG0 ?_
          refine ei_loop (JpC l2 l3 sa.due.length) (n := sa.due.length) ?_ ?_
          · refine ⟨0, R9, w1, w2, sa, sc, by omega, rfl, rfl, hLW8, hdue, rfl, ?_⟩
            simp [Kp, Env.get]
          · have hkd : sa.due.length ≤ 65536 := hLW8.ok.due
            generalize sa.due.length = kd at hkd
            clear hLW8 hdue hww hceq hdd hcc hca
            rintro n ρ H ⟨q, R, w1, w2, sa, sc, hqk, rfl, rfl, hLW, hdue, hdl, hρ⟩
            refine ei_few _ hρ ?_
            clear hρ
            by_cases hqe : q = kd
            · subst hqe
              have hzq : ¬ (((q : Nat) : Int) < ((q : Nat) : Int)) := by omega
              (have g0 := decide_f hzq; refine GG1 ?_; clear g0)
              (first | ((with_reducible first | apply RunP.call | apply Run.call | apply Run.call0); iterate 2 (· (simp only [go_sem, reduceIte, Nat.reduceEqDiff]; (try with_reducible exact rfl)))) | ((with_reducible first | apply Run.callY | apply RunP.callY); iterate 3 (· (simp only [go_sem, reduceIte, Nat.reduceEqDiff]; (try with_reducible exact rfl)))))
              refine (awake_sound _).mono ?_
              rintro v H' ⟨rfl, rfl⟩
              refine GG0 ?_
              rfl
            · have hzq : (((q : Nat) : Int) < ((kd : Nat) : Int)) := by omega
              have eq1 : ((q : Nat) : Int) + 1 = ((q + 1 : Nat) : Int) := rfl
              obtain ⟨x, l, hxl⟩ : ∃ x l, sa.due = x :: l := by
                cases hs : sa.due with
                | nil => rw [hs] at hdl; simp at hdl; omega
                | cons x l => exact ⟨x, l, rfl⟩
              have htake : ∀ s : Ws, s.due = x :: l → ∀ W, WH s [] W → SoundCall Tryd.prog 12 [.p 0 0] W (fun v W' => v = .tup [.i .u64 x, .b true] ∧ WH { s with due := l } [] W') := fun s hs W hW =>
                (take_c s [] W hW).mono fun v W' q => by
                  rcases q with ⟨h, _⟩ | ⟨y, l', h, h1, h2⟩
                  · rw [hs] at h; cases h
                  · rw [hs] at h; cases h; exact ⟨h1, h2⟩
              have hq0 : (x != x) = false := bne_self_eq_false x
              (have g0 := decide_t hzq; refine GG1 ?_; clear g0)
              (first | ((with_reducible first | apply RunP.call | apply Run.call | apply Run.call0); iterate 2 (· (simp only [go_sem, reduceIte, Nat.reduceEqDiff]; (try with_reducible exact rfl)))) | ((with_reducible first | apply Run.callY | apply RunP.callY); iterate 3 (· (simp only [go_sem, reduceIte, Nat.reduceEqDiff]; (try with_reducible exact rfl)))))
              refine (hLW.call (htake sa hxl) rfl hq1).mono ?_
              rintro v H' ⟨R1, v0, W1, ι1, rfl, ⟨rfl, hW1⟩, rfl, hback⟩
              have hLW2 := (hback _ hW1).swap
              clear hback hW1
              simp only [Val.ren, renL, List.cons_append, List.nil_append]
              refine GG0 ?_
              (first | ((with_reducible first | apply RunP.call | apply Run.call | apply Run.call0); iterate 2 (· (simp only [go_sem, reduceIte, Nat.reduceEqDiff]; (try with_reducible exact rfl)))) | ((with_reducible first | apply Run.callY | apply RunP.callY); iterate 3 (· (simp only [go_sem, reduceIte, Nat.reduceEqDiff]; (try with_reducible exact rfl)))))
              refine (hLW2.call (htake sc (hdue ▸ hxl)) rfl hq1).mono ?_
              rintro v H' ⟨R2, v0, W1, ι1, rfl, ⟨rfl, hW1⟩, rfl, hback⟩
              have hLW3 := (hback _ hW1).swap
              clear hback hW1
              simp only [Val.ren, renL, List.cons_append, List.nil_append]
              (have g0 := hq0; have g1 := eq1; refine GG2 ?_; clear g0 g1)
              rw [hxl] at hdl
              simp only [List.length_cons] at hdl
              refine ⟨kd - (q + 1), by omega, q + 1, R2, w1, w2, _, _, by omega, rfl, rfl, hLW3, rfl, by show l.length = _; omega, ?_⟩
              simp [Kp, Env.get]
        · have hz3 : (((j : Nat) : Int) < ((k3 : Nat) : Int)) := by omega
          obtain ⟨x, hx⟩ : ∃ x, l3[j]? = some x := ⟨l3[j], List.getElem?_eq_getElem (by omega)⟩
          obtain ⟨t, rfl⟩ : ∃ t : Nat, x = (t : Nat) := ⟨x.toNat, by have := (rl3 x (List.mem_of_getElem? hx)).1; omega⟩
          have ht2 : t ≤ 18446744073709551615 := by have := (rl3 _ (List.mem_of_getElem? hx)).2; omega
          have hgx : (n6C l3)[j]? = some (.i .u64 (t : Nat)) := by rw [n6_get, hx]; rfl
          have ej : ((j : Nat) : Int) + 1 = ((j + 1 : Nat) : Int) := rfl
          have em : max ((last : Nat) : Int) ((t : Nat) : Int) = ((max last t : Nat) : Int) := by omega
          rcases ho3 with rfl | rfl
          · exact absurd (hnk3 rfl) (by omega)
          simp only [gV_new]
          (have g0 := decide_t hz3; have g1 := hgx; refine GG2 ?_; clear g0 g1)
          (first | ((with_reducible first | apply RunP.call | apply Run.call | apply Run.call0); iterate 2 (· (simp only [go_sem, reduceIte, Nat.reduceEqDiff]; (try with_reducible exact rfl)))) | ((with_reducible first | apply Run.callY | apply RunP.callY); iterate 3 (· (simp only [go_sem, reduceIte, Nat.reduceEqDiff]; (try with_reducible exact rfl)))))
          refine (hLW.swap.call (fun W hW => adv_c sb [] W hW Tb hB.wt t ht2 (by omega)) rfl (by rintro v W' ⟨l, s', _, _, _, h, _⟩; exact ⟨_, _, h⟩)).mono ?_
          rintro v H' ⟨R1, v0, W1, ι, rfl, ⟨l, s', hp, hso, rfl, hWH, hA⟩, rfl, hback⟩
          have hLW2 := (hback _ hWH).swap
          clear hback hWH hLW
          obtain ⟨hB2, _⟩ := hB.adv (Nat.le_max_left _ _) hp hso hA
          obtain ⟨f1, f2, f3, f4, f5⟩ := hA.same
          have f6 := hA.wt
          have f7 := congrArg List.length hA.due
          simp only [List.length_append, vs, List.length_map] at f7
          simp only [List.cons_append, List.nil_append]
          (have g0 := em; have g1 := ej; refine GG2 ?_; clear g0 g1)
          refine ⟨k3 - (j + 1), by omega, j + 1, R1, w1, w2, s', _, _, max last t, by omega, rfl, rfl, hLW2, hB2, by omega, ?_, by omega, by omega, ?_⟩
          · rw [f3, hwb]
            have h1 : last / w ≤ max last t / w := Nat.div_le_div_right (Nat.le_max_left _ _)
            have h2 : t / w ≤ max last t / w := Nat.div_le_div_right (Nat.le_max_right _ _)
            exact Nat.max_le.2 ⟨Nat.le_trans hcb h1, h2⟩
          · simp [Kp, Env.get, gV_new]
    · have hz : (((i : Nat) : Int) < ((k : Nat) : Int)) := by omega
      obtain ⟨x, hx⟩ : ∃ x, l2[i]? = some x := ⟨l2[i], List.getElem?_eq_getElem (by omega)⟩
      obtain ⟨t, rfl⟩ : ∃ t : Nat, x = (t : Nat) := ⟨x.toNat, by have := (rl x (List.mem_of_getElem? hx)).1; omega⟩
      have ht2 : t ≤ 18446744073709551615 := by have := (rl _ (List.mem_of_getElem? hx)).2; omega
      have hgx : (n6C l2)[i]? = some (.i .u64 (t : Nat)) := by rw [n6_get, hx]; rfl
      have ei : ((i : Nat) : Int) + 1 = ((i + 1 : Nat) : Int) := rfl
      have hSp : 0 < s.S := by omega
      have hok := hLW.ok
      have hlen : (s.sl (stP s (slotN t s.w : Nat))).length ≤ 1000000 := by
        have := hP.wt.slots hSp (q := stP s (slotN t s.w : Nat)) (Nat.mod_lt _ hSp); omega
      have hfree : ¬ s.room ≤ s.wt + s.due.length := by rw [g3, g5, g6]; simp; omega
      rcases ho with rfl | rfl
      · exact absurd (hnk rfl) (by omega)
      simp only [gV_new]
      have hb0 : ((0 : Int) != 0) = false := rfl
      have hput : ∀ W, WH s [] W → SoundCall Tryd.prog 10 [.p 0 0, .i .u64 (i : Nat), .i .u64 (t : Nat)] W (fun v W' => v = .i .i64 0 ∧ WH (put1 s (i : Nat) t) [] W') := fun W hW =>
        (put_c s [] W hW (i : Nat) t ht2 hlen (by omega)).mono fun v W' q => by
          rcases q with ⟨h, _⟩ | ⟨_, h1, h2⟩
          · exact absurd h hfree
          · exact ⟨h1, h2⟩
      (have g0 := decide_t hz; have g1 := hgx; refine GG2 ?_; clear g0 g1)
      (first | ((with_reducible first | apply RunP.call | apply Run.call | apply Run.call0); iterate 2 (· (simp only [go_sem, reduceIte, Nat.reduceEqDiff]; (try with_reducible exact rfl)))) | ((with_reducible first | apply Run.callY | apply RunP.callY); iterate 3 (· (simp only [go_sem, reduceIte, Nat.reduceEqDiff]; (try with_reducible exact rfl)))))
      refine (hLW.call hput rfl hq1).mono ?_
      rintro v H' ⟨R1, v0, W1, ι1, rfl, ⟨rfl, hW1⟩, rfl, hback⟩
      have hLW2 := (hback _ hW1).swap
      clear hback hW1
      simp only [Val.ren, List.cons_append, List.nil_append]
      (have g0 := hb0; refine GG1 ?_; clear g0)
      (first | ((with_reducible first | apply RunP.call | apply Run.call | apply Run.call0); iterate 2 (· (simp only [go_sem, reduceIte, Nat.reduceEqDiff]; (try with_reducible exact rfl)))) | ((with_reducible first | apply Run.callY | apply RunP.callY); iterate 3 (· (simp only [go_sem, reduceIte, Nat.reduceEqDiff]; (try with_reducible exact rfl)))))
      refine (hLW2.call hput rfl hq1).mono ?_
      rintro v H' ⟨R2, v0, W1, ι1, rfl, ⟨rfl, hW1⟩, rfl, hback⟩
      have hLW3 := (hback _ hW1).swap
      clear hback hW1
      simp only [Val.ren, List.cons_append, List.nil_append]
      (have g0 := hb0; have g1 := ei; refine GG2 ?_; clear g0 g1)
      refine ⟨k - (i + 1), by omega, i + 1, R2, w1, w2, put1 s (i : Nat) t, T ++ tlP s (i : Nat) t, by omega, rfl, rfl, hLW3, hP.put hok _ ht2 (by omega), ?_⟩
      simp [Kp, Env.get, gV_new]
end Go.Proofs.YtmdilnelogechaaDoor.IR
