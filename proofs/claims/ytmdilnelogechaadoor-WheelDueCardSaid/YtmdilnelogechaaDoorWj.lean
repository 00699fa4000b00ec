/- This text of a proof shows: the law 'WheelHeld'. -/
import Derived.Test.YtmdilnelogechaaDoorGg
import Derived.Test.YtmdilnelogechaaDoorWg
set_option linter.unusedVariables false
set_option linter.unusedSimpArgs false
set_option linter.constructorNameAsVariable false
namespace Go.Proofs.YtmdilnelogechaaDoor.IR
open Go Go.Proofs.YtmdilnelogechaaDoor.Ev Go.Proofs.YtmdilnelogechaaDoor.Ev.Rb Go.Proofs.YtmdilnelogechaaDoor.Ev.Wh Go.Proofs.YtmdilnelogechaaDoor.Ext Go.Proofs.YtmdilnelogechaaDoorW.PrintWords
set_option linter.unusedSimpArgs false
set_option linter.unusedVariables false
set_option maxHeartbeats 4000000
attribute [local go_sem] skipV nc0 nc1 nc2 nc3 bne_self_eq_false decide_true decide_false IOp.step Opd.ev Env.get initEnv Val.cells? Val.one List.all_cons List.all_nil Bool.and_true Bool.and_self Bool.true_and bin ints eqv Val.kindNo lenNo_s lenNo_nils lenNo_sl lenNo_nilm lenNo_m lenOf_s lenOf_nils lenOf_sl lenOf_nilm unary partsOf padTo List.foldl_cons List.foldl_nil wr_nil wr_step wr_zero List.set_cons_zero List.set_cons_succ List.map_cons List.map_nil z1 z2 Nat.succ_ne_zero List.length_cons List.length_nil List.cons_append List.nil_append List.append_nil List.getElem?_cons_zero List.getElem?_cons_succ List.getElem?_nil Option.map_some Option.map_none Nat.zero_add Nat.add_zero List.drop_zero List.drop_succ_cons List.take_succ_cons List.take_zero List.take_nil and_self and_true true_and Nat.le_refl Bool.not_true Bool.not_false Option.getD_some window Val.slen bnd resV resL RV.val Bool.false_eq_true BEq.rfl Bool.true_beq Bool.false_beq beq_true beq_false mk_one ite_true ite_false eqc ceqs ceq NOp.step isK eq_self
attribute [local go_sem] Nat.mul_one gV_no
attribute [local go_sem] nat_toNat getC setC
abbrev Op3 := Int × Int × Int
def o3 (x : Op3) : List Val := [.i .u8 x.1, .i .u64 x.2.1, .i .u64 x.2.2]
def o3C (l : List Op3) : List Val := l.flatMap o3
theorem o3_len (l : List Op3) : (o3C l).length = l.length * 3 := by
  induction l with
  | nil => rfl
  | cons x l ih => simp [o3C, o3] at ih ⊢; omega
theorem o3_win {l : List Op3} {i : Nat} {x : Op3} (h : l[i]? = some x) : ((o3C l).drop (i * 3)).take 3 = o3 x ∧ i * 3 + 3 ≤ (o3C l).length := by
  obtain ⟨hi, e⟩ := List.getElem?_eq_some_iff.1 h
  have e1 : l = l.take i ++ x :: l.drop (i + 1) := by rw [← e, ← List.drop_eq_getElem_cons hi, List.take_append_drop]
  have happ : ∀ a b : List Op3, o3C (a ++ b) = o3C a ++ o3C b := fun a b => by simp [o3C]
  have hl : (o3C (l.take i)).length = i * 3 := by rw [o3_len, List.length_take]; congr 1; omega
  constructor
  · rw [e1, happ]
    rw [show i * 3 = (o3C (l.take i)).length from hl.symm, List.drop_left]
    simp [o3C, o3]
  · rw [o3_len]; omega
theorem slO {sv : Val} {id n sz : Nat} (h : SlArg sv id n sz) : ∃ o : GO, (o = none ∨ o = gNew) ∧ (o = none → n = 0) ∧ sv = gV o id n sz := by
  rcases h with ⟨h1, h2⟩ | h
  · exact ⟨none, .inl rfl, fun _ => h1, h2⟩
  · exact ⟨gNew, .inr rfl, fun e => absurd e gNew_ne, h⟩
theorem gSlic {e : Opd → Val} {H : Heap} {x hi : Opd} {o : GO} {id n k sz : Nat} {kd : IntKind} (hx : e x = gV o id n sz) (ho : o = none ∨ o = gNew) (hn : o = none → n = 0) (hh : e hi = .i kd (k : Nat)) (hk : k ≤ n) :
    (IOp.slice sz x none (some hi)).step e H = some (gV o id k sz, H) := by
  rcases ho with rfl | rfl
  · obtain rfl := hn rfl
    obtain rfl : k = 0 := by omega
    simp only [IOp.step, hx, gV, bnd, hh]
    simp
  · simp only [IOp.step, hx, gV_new, bnd, hh]
    rw [if_pos ⟨trivial, by omega, by omega, by omega⟩]
    simp
/-- What is played: the wheel, what stands in it, how many were put and taken. -/
def HSt (A R : Heap) (S : Nat) (wid : Nat) (s : Ws) (T : Tl) (i pu ta : Nat) : Prop := LW A R wid s [] ∧ WT s T ∧ s.S = S ∧ s.room = 12 ∧ pu = s.wt + s.due.length + ta ∧ s.wt + s.due.length ≤ 12 ∧ pu ≤ i ∧ s.put ≤ i
def HlI (l : List Op3) (a0 : Int) (S : Nat) (o : GO) (k : Nat) (n : Nat) (ρ : Env) (H : Heap) : Prop :=
  ∃ (i : Nat) (R : Heap) (wid : Nat) (s : Ws) (T : Tl) (pu ta : Nat), i ≤ k ∧ n = k - i ∧ H = .ro (o3C l) :: R ∧ HSt [.ro (o3C l)] R S wid s T i pu ta ∧
    Kp [(0, .i .u8 a0), (7, .p wid 0), (9, .i .i64 (pu : Nat)), (10, .i .i64 (ta : Nat)), (11, .i .u64 (s.c : Nat)), (38, gV o 0 k 3), (39, .i .i64 (k : Nat)), (40, .i .i64 (i : Nat))] ρ
def HlM (l : List Op3) (a0 : Int) (S : Nat) (o : GO) (k i c0 : Nat) (ρ : Env) (H : Heap) : Prop :=
  ∃ (R : Heap) (wid : Nat) (s : Ws) (T : Tl) (pu ta : Nat), c0 ≤ s.c ∧ H = .ro (o3C l) :: R ∧ HSt [.ro (o3C l)] R S wid s T (i + 1) pu ta ∧
    Kp [(0, .i .u8 a0), (7, .p wid 0), (9, .i .i64 (pu : Nat)), (10, .i .i64 (ta : Nat)), (11, .i .u64 (c0 : Nat)), (38, gV o 0 k 3), (39, .i .i64 (k : Nat)), (40, .i .i64 (i : Nat))] ρ
def HlS (l : List Op3) (a0 : Int) (S : Nat) (k i c0 : Nat) (s : Ws) (R : Heap) (wid pu ta id : Nat) (n : Nat) (ρ : Env) (H : Heap) : Prop :=
  ∃ q : Nat, q ≤ S ∧ n = S - q ∧ H = .ro (o3C l) :: R ∧
    Kp [(0, .i .u8 a0), (7, .p wid 0), (9, .i .i64 (pu : Nat)), (10, .i .i64 (ta : Nat)), (11, .i .u64 (c0 : Nat)), (38, .sl 0 0 k 3), (39, .i .i64 (k : Nat)), (40, .i .i64 (i : Nat)), (17, .i .i64 ((outL s.S s.c s.sl q).length : Nat)), (90, .sl id 0 S 1), (91, .i .i64 (S : Nat)), (92, .i .i64 (q : Nat))] ρ
theorem WheelHeld_sound (a0 : Int) (a1 : Int) (l2 : List (Int × Int × Int)) (sv2 : Val)
    (w0 : (Lit.int .u8 a0).wf = true) (w1 : (Lit.int .u16 a1).wf = true) (s2 : SlArg sv2 0 l2.length 3) (m2 : l2.length ≤ maxLen) (e2 : ∀ x ∈ l2, (Lit.int .u8 x.1).wf = true ∧ (Lit.int .u64 x.2.1).wf = true ∧ (Lit.int .u64 x.2.2).wf = true) :
    SoundM Tryd.prog 1 7 [.i .u8 a0, .i .u16 a1, sv2] [.ro (l2.flatMap fun x => [.i .u8 x.1, .i .u64 x.2.1, .i .u64 x.2.2])] (fun v _ => v = .b true) := by
  obtain ⟨o, ho, hn, rfl⟩ := slO s2
  have ra0 : 0 ≤ a0 ∧ a0 ≤ 255 := by simpa [Lit.wf, IntKind.has, IntKind.min, IntKind.max, IntKind.bits, IntKind.signed] using w0
  have ra1 : 0 ≤ a1 ∧ a1 ≤ 65535 := by simpa [Lit.wf, IntKind.has, IntKind.min, IntKind.max, IntKind.bits, IntKind.signed] using w1
  have hml : l2.length ≤ 9223372036854775807 := Nat.le_trans m2 (by decide)
  have rl : ∀ x ∈ l2, 0 ≤ x.2.2 ∧ x.2.2 ≤ 18446744073709551615 := fun x hx => by
    have := (e2 x hx).2.2
    simpa [Lit.wf, IntKind.has, IntKind.min, IntKind.max, IntKind.bits, IntKind.signed] using this
  show SoundM _ _ _ _ [.ro (o3C l2)] _
  refine (sound_func Tryd.func7 c7 rfl (by simp) ?_)
  have hmin : mxs true (.i .i64 ((l2.length : Nat) : Int)) [.i .i64 80] = some (.i .i64 ((min l2.length 80 : Nat) : Int)) := by
    rcases Nat.le_total l2.length 80 with h | h
    · rw [mn_lo (by omega), Nat.min_eq_left h]
    · rw [mn_hi (by omega), Nat.min_eq_right h]; rfl
  obtain ⟨k, hk, hk80, hkl⟩ : ∃ k, k = min l2.length 80 ∧ k ≤ 80 ∧ k ≤ l2.length := ⟨_, rfl, by omega, by omega⟩
  rw [← hk] at hmin
  clear hk
  simp only [e7, mvT, opT, onT, unT, clT]
  obtain ⟨S, hS⟩ : ∃ S : Nat, S = 2 + (a0 % 64).toNat := ⟨_, rfl⟩
  obtain ⟨w, hw⟩ : ∃ w : Nat, w = 1 + (a1 % 1000).toNat := ⟨_, rfl⟩
  have hS1 : 2 ≤ S := by omega
  have hS2 : S ≤ 65 := by omega
  have e3 : a0.tmod 64 = ((S : Nat) : Int) - 2 := by rw [tmod_nn (by omega)]; omega
  have e4 : a1.tmod 1000 = ((w : Nat) : Int) - 1 := by rw [tmod_nn (by omega)]; omega
  have e5 : (2 : Int) + (((S : Nat) : Int) - 2) = ((S : Nat) : Int) := by omega
  have e6 : (1 : Int) + (((w : Nat) : Int) - 1) = ((w : Nat) : Int) := by omega
  (have g0 := e3; have g1 := e4; have g2 := e5; have g3 := e6; refine GG4 ?_; clear g0 g1 g2 g3)
  (first | ((with_reducible first | apply RunP.call | apply Run.call | apply Run.call0); iterate 2 (· (simp only [go_sem, reduceIte, Nat.reduceEqDiff]; (try with_reducible exact rfl)))) | ((with_reducible first | apply Run.callY | apply RunP.callY); iterate 3 (· (simp only [go_sem, reduceIte, Nat.reduceEqDiff]; (try with_reducible exact rfl)))))
  refine (LW.new _ S w 12 hS1 (by omega) (by omega) (by omega) (by omega) (by omega)).mono ?_
  rintro v H' ⟨R, wid, rfl, rfl, hLW⟩
  simp only [List.cons_append, List.nil_append]
  (have g0 := gV_len hn; have g1 := hmin; refine GG2 ?_; clear g0 g1)
  refine Aa (gSlic (o := o) (id := 0) (n := l2.length) (k := k) (by (simp only [go_sem, reduceIte, Nat.reduceEqDiff]; (try with_reducible exact rfl))) ho hn (by (simp only [go_sem, reduceIte, Nat.reduceEqDiff]; (try with_reducible exact rfl))) hkl) ?_
  have hnk : o = none → k = 0 := fun e => by have := hn e; omega
  (have g0 := gV_len hnk; refine GG1 ?_; clear g0)
  refine ei_loop (HlI l2 a0 S o k) (n := k) ?_ ?_
  · refine ⟨0, R, wid, _, [], 0, 0, by omega, rfl, rfl, ⟨hLW, WT.init hS1, rfl, rfl, rfl, by simp [Wd.init], Nat.le_refl _, Nat.le_refl _⟩, ?_⟩
    simp [Kp, Env.get, initEnv, Wd.init]
  · clear hLW R wid hw e4 e6 w
    rintro n ρ H ⟨i, R, wid, s, T, pu, ta, hi, rfl, rfl, ⟨hLW, hT, hsS, hroom, hpu, hle, hpi, hsp⟩, hρ⟩
    refine ei_few _ hρ ?_
    clear hρ
    by_cases hik : i = k
    · subst hik
      have hz : ¬ (((i : Nat) : Int) < ((i : Nat) : Int)) := by omega
      (have g0 := decide_f hz; refine GG1 ?_; clear g0)
      (first | ((with_reducible first | apply RunP.call | apply Run.call | apply Run.call0); iterate 2 (· (simp only [go_sem, reduceIte, Nat.reduceEqDiff]; (try with_reducible exact rfl)))) | ((with_reducible first | apply Run.callY | apply RunP.callY); iterate 3 (· (simp only [go_sem, reduceIte, Nat.reduceEqDiff]; (try with_reducible exact rfl)))))
      refine (awake_sound _).mono ?_
      rintro v H' ⟨rfl, rfl⟩
      refine GG0 ?_
      rfl
    · have hz : (((i : Nat) : Int) < ((k : Nat) : Int)) := by omega
      obtain ⟨x, hx⟩ : ∃ x, l2[i]? = some x := ⟨l2[i], List.getElem?_eq_getElem (by omega)⟩
      rcases x with ⟨x1, x2, x3⟩
      obtain ⟨hw1, hw2⟩ := o3_win hx
      obtain ⟨t, rfl⟩ : ∃ t : Nat, x3 = (t : Nat) := ⟨x3.toNat, by have := (rl _ (List.mem_of_getElem? hx)).1; simp at this; omega⟩
      have ht2 : t ≤ 18446744073709551615 := by have := (rl _ (List.mem_of_getElem? hx)).2; simp at this; omega
      rcases ho with rfl | rfl
      · exact absurd (hnk rfl) (by omega)
      simp only [gV_new, o3] at hw1 ⊢
      (have g0 := decide_t hz; have g1 := hw1; refine GG2 ?_; clear g0 g1)
      have hLWb := hLW.push [.rw [.i .u8 x1, .i .u64 x2, .i .u64 (t : Nat)]]
      have hSp : 0 < s.S := by omega
      have hok := hLW.ok
      refine ei_midB (M := HlM l2 a0 S gNew k i s.c) ?_ ?_
      · by_cases h1 : x1 = 1
        · subst h1
          have hb : ((1 : Int) == 1) = true := rfl
          (have g0 := hb; refine GG1 ?_; clear g0)
          (first | ((with_reducible first | apply RunP.call | apply Run.call | apply Run.call0); iterate 2 (· (simp only [go_sem, reduceIte, Nat.reduceEqDiff]; (try with_reducible exact rfl)))) | ((with_reducible first | apply Run.callY | apply RunP.callY); iterate 3 (· (simp only [go_sem, reduceIte, Nat.reduceEqDiff]; (try with_reducible exact rfl)))))
          refine (hLWb.call (fun W hW => put_c s [] W hW x2 t ht2 (by have := hT.slots hSp (q := stP s (slotN t s.w : Nat)) (Nat.mod_lt _ hSp); omega) (by omega)) rfl (by rintro v W' (⟨_, _, h⟩ | ⟨_, _, h⟩) <;> exact ⟨_, _, h⟩)).mono ?_
          rintro v H' ⟨R', v0, W', ι, rfl, hq, rfl, hback, _⟩
          simp only [List.cons_append, List.nil_append]
          have e7 : ((pu : Nat) : Int) - ((ta : Nat) : Int) = ((s.wt + s.due.length : Nat) : Int) := by omega
          have e8 : ((pu : Nat) : Int) + 1 = ((pu + 1 : Nat) : Int) := rfl
          rcases hq with ⟨hfull, rfl, hWH⟩ | ⟨hfree, rfl, hWH⟩
          · have d : ((s.wt + s.due.length : Nat) : Int) ≥ 12 := by omega
            simp only [Val.ren]
            (have g0 := e7; have g1 := decide_t d; refine GG2 ?_; clear g0 g1)
            refine ⟨R', wid, s, T, pu, ta, Nat.le_refl _, rfl, ⟨hback _ _ hWH, hT, hsS, hroom, hpu, hle, by omega, by omega⟩, ?_⟩
            simp [Kp, Env.get, gV_new]
          · have d : ¬ ((s.wt + s.due.length : Nat) : Int) ≥ 12 := by omega
            simp only [Val.ren]
            (have g0 := e7; have g1 := decide_f d; have g2 := e8; refine GG3 ?_; clear g0 g1 g2)
            refine ⟨R', wid, put1 s x2 t, T ++ tlP s x2 t, pu + 1, ta, Nat.le_refl _, rfl, ⟨hback _ _ hWH, hT.put hok ht2 hfree, hsS, hroom, ?_, ?_, by omega, ?_⟩, ?_⟩
            · show pu + 1 = s.wt + 1 + s.due.length + ta; omega
            · show s.wt + 1 + s.due.length ≤ 12; omega
            · show s.put + 1 ≤ i + 1; omega
            · simp [Kp, Env.get, gV_new]
        · have hb1 : (x1 == 1) = false := by simpa using h1
          by_cases h2 : x1 = 2
          · subst h2
            have hb : ((2 : Int) == 1) = false := rfl
            have hb' : ((2 : Int) == 2) = true := rfl
            (have g0 := hb; have g1 := hb'; refine GG2 ?_; clear g0 g1)
            (first | ((with_reducible first | apply RunP.call | apply Run.call | apply Run.call0); iterate 2 (· (simp only [go_sem, reduceIte, Nat.reduceEqDiff]; (try with_reducible exact rfl)))) | ((with_reducible first | apply Run.callY | apply RunP.callY); iterate 3 (· (simp only [go_sem, reduceIte, Nat.reduceEqDiff]; (try with_reducible exact rfl)))))
            refine (hLWb.call (fun W hW => adv_c s [] W hW T hT t ht2 (by omega)) rfl (by rintro v W' ⟨l, s', _, _, _, h, _⟩; exact ⟨_, _, h⟩)).mono ?_
            rintro v H' ⟨R', v0, W', ι, rfl, ⟨l, s', hp, hso, rfl, hWH, hA⟩, rfl, hback, _⟩
            simp only [List.cons_append, List.nil_append]
            refine GG0 ?_
            obtain ⟨g1, g2, g3, g4, g5⟩ := hA.same
            have g6 := hA.wt
            have g7 := congrArg List.length hA.due
            simp only [List.length_append, vs, List.length_map] at g7
            refine ⟨R', wid, s', _, pu, ta, by omega, rfl, ⟨hback _ _ hWH, hA.wT, by omega, by omega, by omega, by omega, by omega, by omega⟩, ?_⟩
            simp [Kp, Env.get, gV_new]
          · have hb2 : (x1 == 2) = false := by simpa using h2
            by_cases h3 : x1 = 3
            · subst h3
              have hb : ((3 : Int) == 1) = false := rfl
              have hb' : ((3 : Int) == 2) = false := rfl
              have hb'' : ((3 : Int) == 3) = true := rfl
              (have g0 := hb; have g1 := hb'; have g2 := hb''; refine GG3 ?_; clear g0 g1 g2)
              (first | ((with_reducible first | apply RunP.call | apply Run.call | apply Run.call0); iterate 2 (· (simp only [go_sem, reduceIte, Nat.reduceEqDiff]; (try with_reducible exact rfl)))) | ((with_reducible first | apply Run.callY | apply RunP.callY); iterate 3 (· (simp only [go_sem, reduceIte, Nat.reduceEqDiff]; (try with_reducible exact rfl)))))
              refine (hLWb.call (fun W hW => take_c s [] W hW) rfl (by rintro v W' (⟨_, _, h⟩ | ⟨_, _, _, _, h⟩) <;> exact ⟨_, _, h⟩)).mono ?_
              rintro v H' ⟨R', v0, W', ι, rfl, hq, rfl, hback, _⟩
              simp only [List.cons_append, List.nil_append]
              rcases hq with ⟨hd, rfl, hWH⟩ | ⟨y, l, hd, rfl, hWH⟩
              · simp only [Val.ren, renL]
                refine GG0 ?_
                refine ⟨R', wid, s, T, pu, ta, Nat.le_refl _, rfl, ⟨hback _ _ hWH, hT, hsS, hroom, hpu, hle, by omega, by omega⟩, ?_⟩
                simp [Kp, Env.get, gV_new]
              · have e8 : ((ta : Nat) : Int) + 1 = ((ta + 1 : Nat) : Int) := rfl
                have hdl := congrArg List.length hd
                simp only [List.length_cons] at hdl
                simp only [Val.ren, renL]
                (have g0 := e8; refine GG1 ?_; clear g0)
                refine ⟨R', wid, { s with due := l }, T, pu, ta + 1, Nat.le_refl _, rfl, ⟨hback _ _ hWH, hT.less (by omega), hsS, hroom, ?_, ?_, by omega, ?_⟩, ?_⟩
                · show pu = s.wt + l.length + (ta + 1); omega
                · show s.wt + l.length ≤ 12; omega
                · show s.put ≤ i + 1; omega
                · simp [Kp, Env.get, gV_new]
            · have hb3 : (x1 == 3) = false := by simpa using h3
              (have g0 := hb1; have g1 := hb2; have g2 := hb3; refine GG3 ?_; clear g0 g1 g2)
              refine ⟨_, wid, s, T, pu, ta, Nat.le_refl _, rfl, ⟨hLWb, hT, hsS, hroom, hpu, hle, by omega, by omega⟩, ?_⟩
              simp [Kp, Env.get, gV_new]
      · clear hLWb hLW hT hsS hroom hpu hle hpi hsp hok hSp pu ta
        have hcc : ∃ c0, c0 = s.c := ⟨_, rfl⟩
        obtain ⟨c0, hcc⟩ := hcc
        rw [← hcc]
        clear hcc s T R wid
        rintro ρ H ⟨R, wid, s, T, pu, ta, hc0, rfl, ⟨hLW, hT, hsS, hroom, hpu, hle, hpi, hsp⟩, hρ⟩
        refine ei_few _ hρ ?_
        clear hρ
        have hSp : 0 < s.S := by omega
        simp only [gV_new]
        refine GG0 ?_
        (first | ((with_reducible first | apply RunP.call | apply Run.call | apply Run.call0); iterate 2 (· (simp only [go_sem, reduceIte, Nat.reduceEqDiff]; (try with_reducible exact rfl)))) | ((with_reducible first | apply Run.callY | apply RunP.callY); iterate 3 (· (simp only [go_sem, reduceIte, Nat.reduceEqDiff]; (try with_reducible exact rfl)))))
        refine (hLW.call (fun W hW => held_c s [] W hW (fun p hp => by have := hT.slots hSp hp; omega)) rfl (by rintro v W' ⟨jo, _, h⟩; exact ⟨_, _, h⟩)).mono ?_
        rintro v H' ⟨R', v0, W', ι, rfl, ⟨jo, rfl, hWH⟩, rfl, hback, hobj⟩
        obtain ⟨_, hget⟩ := hobj (jo + 7) _ (hWH.at_ (x := (jo, .rw (hC s s.S))) (by simp)) (hC_wf s 0 _)
        have hLW2 := (hback _ _ hWH).less (J' := []) (by simp)
        clear hback hobj hWH hLW
        simp only [Val.ren, List.cons_append, List.nil_append] at hget ⊢
        generalize ι (jo + 7) = id at hget
        rw [hsS] at hget ⊢
        refine GG0 ?_
        have hsum := hT.held hSp
        refine ei_loop (HlS l2 a0 S k i c0 s R' wid pu ta id) (n := S) ?_ ?_
        · refine ⟨0, Nat.zero_le _, rfl, rfl, ?_⟩
          simp [Kp, Env.get, outL]
        · rintro n ρ H ⟨q, hq, rfl, rfl, hρ⟩
          refine ei_few _ hρ ?_
          clear hρ
          by_cases hqS : q = S
          · subst hqS
            have hzq : ¬ (((q : Nat) : Int) < ((q : Nat) : Int)) := by omega
            rw [hsS] at hsum
            rw [hsS, hsum]
            have hd1 : (((s.wt : Nat) : Int) != ((s.wt : Nat) : Int)) = false := bne_self_eq_false _
            (have g0 := decide_f hzq; refine GG1 ?_; clear g0)
            (first | ((with_reducible first | apply RunP.call | apply Run.call | apply Run.call0); iterate 2 (· (simp only [go_sem, reduceIte, Nat.reduceEqDiff]; (try with_reducible exact rfl)))) | ((with_reducible first | apply Run.callY | apply RunP.callY); iterate 3 (· (simp only [go_sem, reduceIte, Nat.reduceEqDiff]; (try with_reducible exact rfl)))))
            refine (hLW2.call waits_w rfl hq1).mono ?_
            rintro v H' ⟨R1, v0, W1, ι1, rfl, ⟨rfl, hW1⟩, rfl, hback, _⟩
            have hLW3 := hback _ _ hW1
            clear hback hW1
            simp only [Val.ren, List.cons_append, List.nil_append]
            (have g0 := hd1; refine GG1 ?_; clear g0)
            (first | ((with_reducible first | apply RunP.call | apply Run.call | apply Run.call0); iterate 2 (· (simp only [go_sem, reduceIte, Nat.reduceEqDiff]; (try with_reducible exact rfl)))) | ((with_reducible first | apply Run.callY | apply RunP.callY); iterate 3 (· (simp only [go_sem, reduceIte, Nat.reduceEqDiff]; (try with_reducible exact rfl)))))
            refine (hLW3.call waits_w rfl hq1).mono ?_
            rintro v H' ⟨R2, v0, W1, ι1, rfl, ⟨rfl, hW1⟩, rfl, hback, _⟩
            have hLW4 := hback _ _ hW1
            clear hback hW1
            simp only [Val.ren, List.cons_append, List.nil_append]
            refine GG0 ?_
            (first | ((with_reducible first | apply RunP.call | apply Run.call | apply Run.call0); iterate 2 (· (simp only [go_sem, reduceIte, Nat.reduceEqDiff]; (try with_reducible exact rfl)))) | ((with_reducible first | apply Run.callY | apply RunP.callY); iterate 3 (· (simp only [go_sem, reduceIte, Nat.reduceEqDiff]; (try with_reducible exact rfl)))))
            refine (hLW4.call due_w rfl hq1).mono ?_
            rintro v H' ⟨R3, v0, W1, ι1, rfl, ⟨rfl, hW1⟩, rfl, hback, _⟩
            have hLW5 := hback _ _ hW1
            clear hback hW1
            simp only [Val.ren, List.cons_append, List.nil_append]
            have e7 : ((pu : Nat) : Int) - ((ta : Nat) : Int) = ((s.wt : Nat) : Int) + ((s.due.length : Nat) : Int) := by omega
            have hd2 : (((s.wt : Nat) : Int) + ((s.due.length : Nat) : Int) != ((s.wt : Nat) : Int) + ((s.due.length : Nat) : Int)) = false := bne_self_eq_false _
            (have g0 := e7; have g1 := hd2; refine GG2 ?_; clear g0 g1)
            (first | ((with_reducible first | apply RunP.call | apply Run.call | apply Run.call0); iterate 2 (· (simp only [go_sem, reduceIte, Nat.reduceEqDiff]; (try with_reducible exact rfl)))) | ((with_reducible first | apply Run.callY | apply RunP.callY); iterate 3 (· (simp only [go_sem, reduceIte, Nat.reduceEqDiff]; (try with_reducible exact rfl)))))
            refine (hLW5.call cursor_w rfl hq1).mono ?_
            rintro v H' ⟨R4, v0, W1, ι1, rfl, ⟨rfl, hW1⟩, rfl, hback, _⟩
            have hLW6 := hback _ _ hW1
            clear hback hW1
            simp only [Val.ren, List.cons_append, List.nil_append]
            have hd3 : ¬ (((s.c : Nat) : Int) < ((c0 : Nat) : Int)) := by omega
            (have g0 := decide_f hd3; refine GG1 ?_; clear g0)
            (first | ((with_reducible first | apply RunP.call | apply Run.call | apply Run.call0); iterate 2 (· (simp only [go_sem, reduceIte, Nat.reduceEqDiff]; (try with_reducible exact rfl)))) | ((with_reducible first | apply Run.callY | apply RunP.callY); iterate 3 (· (simp only [go_sem, reduceIte, Nat.reduceEqDiff]; (try with_reducible exact rfl)))))
            refine (hLW6.call (fun W hW => held_c s [] W hW (fun p hp => by have := hT.slots hSp hp; omega)) rfl (by rintro v W' ⟨jo, _, h⟩; exact ⟨_, _, h⟩)).mono ?_
            rintro v H' ⟨R5, v0, W', ι, rfl, ⟨jo, rfl, hWH⟩, rfl, hback, _⟩
            have hLW7 := (hback _ _ hWH).less (J' := []) (by simp)
            clear hback hWH
            rw [hsS]
            simp only [Val.ren, List.cons_append, List.nil_append]
            have hd4 : (((q : Nat) : Int) != ((q : Nat) : Int)) = false := bne_self_eq_false _
            (have g0 := e3; have g1 := e5; have g2 := hd4; refine GG3 ?_; clear g0 g1 g2)
            (first | ((with_reducible first | apply RunP.call | apply Run.call | apply Run.call0); iterate 2 (· (simp only [go_sem, reduceIte, Nat.reduceEqDiff]; (try with_reducible exact rfl)))) | ((with_reducible first | apply Run.callY | apply RunP.callY); iterate 3 (· (simp only [go_sem, reduceIte, Nat.reduceEqDiff]; (try with_reducible exact rfl)))))
            refine (hLW7.call cursor_w rfl hq1).mono ?_
            rintro v H' ⟨R6, v0, W1, ι1, rfl, ⟨rfl, hW1⟩, rfl, hback, _⟩
            have hLW8 := hback _ _ hW1
            clear hback hW1
            simp only [Val.ren, List.cons_append, List.nil_append]
            have ei : ((i : Nat) : Int) + 1 = ((i + 1 : Nat) : Int) := rfl
            (have g0 := ei; refine GG1 ?_; clear g0)
            refine ⟨k - (i + 1), by omega, i + 1, R6, wid, s, T, pu, ta, by omega, rfl, rfl, ⟨hLW8, hT, hsS, hroom, hpu, hle, hpi, hsp⟩, ?_⟩
            simp [Kp, Env.get, gV_new]
          · have hzq : (((q : Nat) : Int) < ((S : Nat) : Int)) := by omega
            have eq1 : ((q : Nat) : Int) + 1 = ((q + 1 : Nat) : Int) := rfl
            have hcq : (hC s S)[q]? = some (.i .i64 (hN s q : Nat)) := by
              simp only [hC, List.getElem?_map, List.getElem?_range (show q < S by omega), Option.map_some]
            have hs1 := hN_sum s q
            have hs2 := outL_mono s (k := q + 1) (n := s.S) (by omega)
            have es : (((outL s.S s.c s.sl q).length : Nat) : Int) + ((hN s q : Nat) : Int) = (((outL s.S s.c s.sl (q + 1)).length : Nat) : Int) := by rw [hs1]; rfl
            (have g0 := decide_t hzq; have g1 := hget; have g2 := hcq; have g3 := es; have g4 := eq1; refine GG5 ?_; clear g0 g1 g2 g3 g4)
            refine ⟨S - (q + 1), by omega, q + 1, by omega, rfl, rfl, ?_⟩
            simp [Kp, Env.get]
end Go.Proofs.YtmdilnelogechaaDoor.IR
