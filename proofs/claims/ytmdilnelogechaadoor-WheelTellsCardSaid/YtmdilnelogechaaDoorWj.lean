/- This text of a proof shows: the law 'WheelHeld'; two wheels side by side; what is due behind any Advances, in plain words; a wheel that the laws make; what Next of a wheel comes to; a wheel beside other objects that are kept; what was put, what came and what waits. -/
import Derived.Test.YtmdilnelogechaaDoorGg
import Derived.Test.YtmdilnelogechaaDoorWg
set_option linter.unusedVariables false
set_option linter.unusedSimpArgs false
set_option linter.constructorNameAsVariable false
namespace Go.Proofs.YtmdilnelogechaaDoor.IR
open Go Go.Proofs.YtmdilnelogechaaDoor.Ev Go.Proofs.YtmdilnelogechaaDoor.Ev.Rb Go.Proofs.YtmdilnelogechaaDoor.Ev.Wh Go.Proofs.YtmdilnelogechaaDoor.Ext Go.Proofs.YtmdilnelogechaaDoorW.PrintWords
set_option linter.unusedSimpArgs false
set_option linter.unusedVariables false
set_option maxHeartbeats 4000000
attribute [local go_sem] skipV nc0 nc1 nc2 nc3 bne_self_eq_false decide_true decide_false IOp.step Opd.ev Env.get initEnv Val.cells? Val.one List.all_cons List.all_nil Bool.and_true Bool.and_self Bool.true_and bin ints eqv Val.kindNo lenNo_s lenNo_nils lenNo_sl lenNo_nilm lenNo_m lenOf_s lenOf_nils lenOf_sl lenOf_nilm unary partsOf padTo List.foldl_cons List.foldl_nil wr_nil wr_step wr_zero List.set_cons_zero List.set_cons_succ List.map_cons List.map_nil z1 z2 Nat.succ_ne_zero List.length_cons List.length_nil List.cons_append List.nil_append List.append_nil List.getElem?_cons_zero List.getElem?_cons_succ List.getElem?_nil Option.map_some Option.map_none Nat.zero_add Nat.add_zero List.drop_zero List.drop_succ_cons List.take_succ_cons List.take_zero List.take_nil and_self and_true true_and Nat.le_refl Bool.not_true Bool.not_false Option.getD_some window Val.slen bnd resV resL RV.val Bool.false_eq_true BEq.rfl Bool.true_beq Bool.false_beq beq_true beq_false mk_one ite_true ite_false eqc ceqs ceq NOp.step isK eq_self
attribute [local go_sem] Nat.mul_one gV_no
attribute [local go_sem] nat_toNat getC setC
abbrev Op3 := Int × Int × Int
def o3 (x : Op3) : List Val := [.i .u8 x.1, .i .u64 x.2.1, .i .u64 x.2.2]
def o3C (l : List Op3) : List Val := l.flatMap o3
theorem o3_len (l : List Op3) : (o3C l).length = l.length * 3 := by
  induction l with
  | nil => rfl
  | cons x l ih => simp [o3C, o3] at ih ⊢; omega
theorem o3_win {l : List Op3} {i : Nat} {x : Op3} (h : l[i]? = some x) : ((o3C l).drop (i * 3)).take 3 = o3 x ∧ i * 3 + 3 ≤ (o3C l).length := by
  obtain ⟨hi, e⟩ := List.getElem?_eq_some_iff.1 h
  have e1 : l = l.take i ++ x :: l.drop (i + 1) := by rw [← e, ← List.drop_eq_getElem_cons hi, List.take_append_drop]
  have happ : ∀ a b : List Op3, o3C (a ++ b) = o3C a ++ o3C b := fun a b => by simp [o3C]
  have hl : (o3C (l.take i)).length = i * 3 := by rw [o3_len, List.length_take]; congr 1; omega
  constructor
  · rw [e1, happ]
    rw [show i * 3 = (o3C (l.take i)).length from hl.symm, List.drop_left]
    simp [o3C, o3]
  · rw [o3_len]; omega
theorem slO {sv : Val} {id n sz : Nat} (h : SlArg sv id n sz) : ∃ o : GO, (o = none ∨ o = gNew) ∧ (o = none → n = 0) ∧ sv = gV o id n sz := by
  rcases h with ⟨h1, h2⟩ | h
  · exact ⟨none, .inl rfl, fun _ => h1, h2⟩
  · exact ⟨gNew, .inr rfl, fun e => absurd e gNew_ne, h⟩
theorem gSlic {e : Opd → Val} {H : Heap} {x hi : Opd} {o : GO} {id n k sz : Nat} {kd : IntKind} (hx : e x = gV o id n sz) (ho : o = none ∨ o = gNew) (hn : o = none → n = 0) (hh : e hi = .i kd (k : Nat)) (hk : k ≤ n) :
    (IOp.slice sz x none (some hi)).step e H = some (gV o id k sz, H) := by
  rcases ho with rfl | rfl
  · obtain rfl := hn rfl
    obtain rfl : k = 0 := by omega
    simp only [IOp.step, hx, gV, bnd, hh]
    simp
  · simp only [IOp.step, hx, gV_new, bnd, hh]
    rw [if_pos ⟨trivial, by omega, by omega, by omega⟩]
    simp
/-- What is played: the wheel, what stands in it, how many were put and taken. -/
def HSt (A R : Heap) (S : Nat) (wid : Nat) (s : Ws) (T : Tl) (i pu ta : Nat) : Prop := LW A R wid s [] ∧ WT s T ∧ s.S = S ∧ s.room = 12 ∧ pu = s.wt + s.due.length + ta ∧ s.wt + s.due.length ≤ 12 ∧ pu ≤ i ∧ s.put ≤ i
def HlI (l : List Op3) (a0 : Int) (S : Nat) (o : GO) (k : Nat) (n : Nat) (ρ : Env) (H : Heap) : Prop :=
  ∃ (i : Nat) (R : Heap) (wid : Nat) (s : Ws) (T : Tl) (pu ta : Nat), i ≤ k ∧ n = k - i ∧ H = .ro (o3C l) :: R ∧ HSt [.ro (o3C l)] R S wid s T i pu ta ∧
    Kp [(0, .i .u8 a0), (7, .p wid 0), (9, .i .i64 (pu : Nat)), (10, .i .i64 (ta : Nat)), (11, .i .u64 (s.c : Nat)), (38, gV o 0 k 3), (39, .i .i64 (k : Nat)), (40, .i .i64 (i : Nat))] ρ
def HlM (l : List Op3) (a0 : Int) (S : Nat) (o : GO) (k i c0 : Nat) (ρ : Env) (H : Heap) : Prop :=
  ∃ (R : Heap) (wid : Nat) (s : Ws) (T : Tl) (pu ta : Nat), c0 ≤ s.c ∧ H = .ro (o3C l) :: R ∧ HSt [.ro (o3C l)] R S wid s T (i + 1) pu ta ∧
    Kp [(0, .i .u8 a0), (7, .p wid 0), (9, .i .i64 (pu : Nat)), (10, .i .i64 (ta : Nat)), (11, .i .u64 (c0 : Nat)), (38, gV o 0 k 3), (39, .i .i64 (k : Nat)), (40, .i .i64 (i : Nat))] ρ
def HlS (l : List Op3) (a0 : Int) (S : Nat) (k i c0 : Nat) (s : Ws) (R : Heap) (wid pu ta id : Nat) (n : Nat) (ρ : Env) (H : Heap) : Prop :=
  ∃ q : Nat, q ≤ S ∧ n = S - q ∧ H = .ro (o3C l) :: R ∧
    Kp [(0, .i .u8 a0), (7, .p wid 0), (9, .i .i64 (pu : Nat)), (10, .i .i64 (ta : Nat)), (11, .i .u64 (c0 : Nat)), (38, .sl 0 0 k 3), (39, .i .i64 (k : Nat)), (40, .i .i64 (i : Nat)), (17, .i .i64 ((outL s.S s.c s.sl q).length : Nat)), (90, .sl id 0 S 1), (91, .i .i64 (S : Nat)), (92, .i .i64 (q : Nat))] ρ
theorem WheelHeld_sound (a0 : Int) (a1 : Int) (l2 : List (Int × Int × Int)) (sv2 : Val)
    (w0 : (Lit.int .u8 a0).wf = true) (w1 : (Lit.int .u16 a1).wf = true) (s2 : SlArg sv2 0 l2.length 3) (m2 : l2.length ≤ maxLen) (e2 : ∀ x ∈ l2, (Lit.int .u8 x.1).wf = true ∧ (Lit.int .u64 x.2.1).wf = true ∧ (Lit.int .u64 x.2.2).wf = true) :
    SoundM Tryd.prog 1 7 [.i .u8 a0, .i .u16 a1, sv2] [.ro (l2.flatMap fun x => [.i .u8 x.1, .i .u64 x.2.1, .i .u64 x.2.2])] (fun v _ => v = .b true) := by
  obtain ⟨o, ho, hn, rfl⟩ := slO s2
  have ra0 : 0 ≤ a0 ∧ a0 ≤ 255 := by simpa [Lit.wf, IntKind.has, IntKind.min, IntKind.max, IntKind.bits, IntKind.signed] using w0
  have ra1 : 0 ≤ a1 ∧ a1 ≤ 65535 := by simpa [Lit.wf, IntKind.has, IntKind.min, IntKind.max, IntKind.bits, IntKind.signed] using w1
  have hml : l2.length ≤ 9223372036854775807 := Nat.le_trans m2 (by decide)
  have rl : ∀ x ∈ l2, 0 ≤ x.2.2 ∧ x.2.2 ≤ 18446744073709551615 := fun x hx => by
    have := (e2 x hx).2.2
    simpa [Lit.wf, IntKind.has, IntKind.min, IntKind.max, IntKind.bits, IntKind.signed] using this
  show SoundM _ _ _ _ [.ro (o3C l2)] _
  refine (sound_func Tryd.func7 c7 rfl (by simp) ?_)
  have hmin : mxs true (.i .i64 ((l2.length : Nat) : Int)) [.i .i64 80] = some (.i .i64 ((min l2.length 80 : Nat) : Int)) := by
    rcases Nat.le_total l2.length 80 with h | h
    · rw [mn_lo (by omega), Nat.min_eq_left h]
    · rw [mn_hi (by omega), Nat.min_eq_right h]; rfl
  obtain ⟨k, hk, hk80, hkl⟩ : ∃ k, k = min l2.length 80 ∧ k ≤ 80 ∧ k ≤ l2.length := ⟨_, rfl, by omega, by omega⟩
  rw [← hk] at hmin
  clear hk
  simp only [e7, s7]
  obtain ⟨S, hS⟩ : ∃ S : Nat, S = 2 + (a0 % 64).toNat := ⟨_, rfl⟩
  obtain ⟨w, hw⟩ : ∃ w : Nat, w = 1 + (a1 % 1000).toNat := ⟨_, rfl⟩
  have hS1 : 2 ≤ S := by omega
  have hS2 : S ≤ 65 := by omega
  have e3 : a0.tmod 64 = ((S : Nat) : Int) - 2 := by rw [tmod_nn (by omega)]; omega
  have e4 : a1.tmod 1000 = ((w : Nat) : Int) - 1 := by rw [tmod_nn (by omega)]; omega
  have e5 : (2 : Int) + (((S : Nat) : Int) - 2) = ((S : Nat) : Int) := by omega
  have e6 : (1 : Int) + (((w : Nat) : Int) - 1) = ((w : Nat) : Int) := by omega
  (have g0 := e3; have g1 := e4; have g2 := e5; have g3 := e6; refine GG4 ?_; clear g0 g1 g2 g3)
  (first | ((with_reducible first | apply RunP.call | apply Run.call | apply Run.call0); iterate 2 (· (simp only [go_sem, reduceIte, Nat.reduceEqDiff]; (try with_reducible exact rfl)))) | ((with_reducible first | apply Run.callY | apply RunP.callY); iterate 3 (· (simp only [go_sem, reduceIte, Nat.reduceEqDiff]; (try with_reducible exact rfl)))))
  refine (LW.new _ S w 12 hS1 (by omega) (by omega) (by omega) (by omega) (by omega)).mono ?_
  rintro v H' ⟨R, wid, rfl, rfl, hLW⟩
  simp only [List.cons_append, List.nil_append]
  (have g0 := gV_len hn; have g1 := hmin; refine GG2 ?_; clear g0 g1)
  refine Aa (gSlic (o := o) (id := 0) (n := l2.length) (k := k) (by (simp only [go_sem, reduceIte, Nat.reduceEqDiff]; (try with_reducible exact rfl))) ho hn (by (simp only [go_sem, reduceIte, Nat.reduceEqDiff]; (try with_reducible exact rfl))) hkl) ?_
  have hnk : o = none → k = 0 := fun e => by have := hn e; omega
  (have g0 := gV_len hnk; refine GG1 ?_; clear g0)
  refine ei_loop (HlI l2 a0 S o k) (n := k) ?_ ?_
  · refine ⟨0, R, wid, _, [], 0, 0, by omega, rfl, rfl, ⟨hLW, WT.init hS1, rfl, rfl, rfl, by simp [Wd.init], Nat.le_refl _, Nat.le_refl _⟩, ?_⟩
    simp [Kp, Env.get, initEnv, Wd.init]
  · clear hLW R wid hw e4 e6 w
    rintro n ρ H ⟨i, R, wid, s, T, pu, ta, hi, rfl, rfl, ⟨hLW, hT, hsS, hroom, hpu, hle, hpi, hsp⟩, hρ⟩
    refine ei_few _ hρ ?_
    clear hρ
    by_cases hik : i = k
    · subst hik
      have hz : ¬ (((i : Nat) : Int) < ((i : Nat) : Int)) := by omega
      (have g0 := decide_f hz; refine GG1 ?_; clear g0)
      (first | ((with_reducible first | apply RunP.call | apply Run.call | apply Run.call0); iterate 2 (· (simp only [go_sem, reduceIte, Nat.reduceEqDiff]; (try with_reducible exact rfl)))) | ((with_reducible first | apply Run.callY | apply RunP.callY); iterate 3 (· (simp only [go_sem, reduceIte, Nat.reduceEqDiff]; (try with_reducible exact rfl)))))
      refine (awake_sound _).mono ?_
      rintro v H' ⟨rfl, rfl⟩
      refine GG0 ?_
      rfl
    · have hz : (((i : Nat) : Int) < ((k : Nat) : Int)) := by omega
      obtain ⟨x, hx⟩ : ∃ x, l2[i]? = some x := ⟨l2[i], List.getElem?_eq_getElem (by omega)⟩
      rcases x with ⟨x1, x2, x3⟩
      obtain ⟨hw1, hw2⟩ := o3_win hx
      obtain ⟨t, rfl⟩ : ∃ t : Nat, x3 = (t : Nat) := ⟨x3.toNat, by have := (rl _ (List.mem_of_getElem? hx)).1; simp at this; omega⟩
      have ht2 : t ≤ 18446744073709551615 := by have := (rl _ (List.mem_of_getElem? hx)).2; simp at this; omega
      rcases ho with rfl | rfl
      · exact absurd (hnk rfl) (by omega)
      simp only [gV_new, o3] at hw1 ⊢
      (have g0 := decide_t hz; have g1 := hw1; refine GG2 ?_; clear g0 g1)
      have hLWb := hLW.push [.rw [.i .u8 x1, .i .u64 x2, .i .u64 (t : Nat)]]
      have hSp : 0 < s.S := by omega
      have hok := hLW.ok
      refine ei_midB (M := HlM l2 a0 S gNew k i s.c) ?_ ?_
      · by_cases h1 : x1 = 1
        · subst h1
          have hb : ((1 : Int) == 1) = true := rfl
          (have g0 := hb; refine GG1 ?_; clear g0)
          (first | ((with_reducible first | apply RunP.call | apply Run.call | apply Run.call0); iterate 2 (· (simp only [go_sem, reduceIte, Nat.reduceEqDiff]; (try with_reducible exact rfl)))) | ((with_reducible first | apply Run.callY | apply RunP.callY); iterate 3 (· (simp only [go_sem, reduceIte, Nat.reduceEqDiff]; (try with_reducible exact rfl)))))
          refine (hLWb.call (fun W hW => put_c s [] W hW x2 t ht2 (by have := hT.slots hSp (q := stP s (slotN t s.w : Nat)) (Nat.mod_lt _ hSp); omega) (by omega)) rfl (by rintro v W' (⟨_, _, h⟩ | ⟨_, _, h⟩) <;> exact ⟨_, _, h⟩)).mono ?_
          rintro v H' ⟨R', v0, W', ι, rfl, hq, rfl, hback, _⟩
          simp only [List.cons_append, List.nil_append]
          have e7 : ((pu : Nat) : Int) - ((ta : Nat) : Int) = ((s.wt + s.due.length : Nat) : Int) := by omega
          have e8 : ((pu : Nat) : Int) + 1 = ((pu + 1 : Nat) : Int) := rfl
          rcases hq with ⟨hfull, rfl, hWH⟩ | ⟨hfree, rfl, hWH⟩
          · have d : ((s.wt + s.due.length : Nat) : Int) ≥ 12 := by omega
            simp only [Val.ren]
            (have g0 := e7; have g1 := decide_t d; refine GG2 ?_; clear g0 g1)
            refine ⟨R', wid, s, T, pu, ta, Nat.le_refl _, rfl, ⟨hback _ _ hWH, hT, hsS, hroom, hpu, hle, by omega, by omega⟩, ?_⟩
            simp [Kp, Env.get, gV_new]
          · have d : ¬ ((s.wt + s.due.length : Nat) : Int) ≥ 12 := by omega
            simp only [Val.ren]
            (have g0 := e7; have g1 := decide_f d; have g2 := e8; refine GG3 ?_; clear g0 g1 g2)
            refine ⟨R', wid, put1 s x2 t, T ++ tlP s x2 t, pu + 1, ta, Nat.le_refl _, rfl, ⟨hback _ _ hWH, hT.put hok ht2 hfree, hsS, hroom, ?_, ?_, by omega, ?_⟩, ?_⟩
            · show pu + 1 = s.wt + 1 + s.due.length + ta; omega
            · show s.wt + 1 + s.due.length ≤ 12; omega
            · show s.put + 1 ≤ i + 1; omega
            · simp [Kp, Env.get, gV_new]
        · have hb1 : (x1 == 1) = false := by simpa using h1
          by_cases h2 : x1 = 2
          · subst h2
            have hb : ((2 : Int) == 1) = false := rfl
            have hb' : ((2 : Int) == 2) = true := rfl
            (have g0 := hb; have g1 := hb'; refine GG2 ?_; clear g0 g1)
            (first | ((with_reducible first | apply RunP.call | apply Run.call | apply Run.call0); iterate 2 (· (simp only [go_sem, reduceIte, Nat.reduceEqDiff]; (try with_reducible exact rfl)))) | ((with_reducible first | apply Run.callY | apply RunP.callY); iterate 3 (· (simp only [go_sem, reduceIte, Nat.reduceEqDiff]; (try with_reducible exact rfl)))))
            refine (hLWb.call (fun W hW => adv_c s [] W hW T hT t ht2 (by omega)) rfl (by rintro v W' ⟨l, s', _, _, _, h, _⟩; exact ⟨_, _, h⟩)).mono ?_
            rintro v H' ⟨R', v0, W', ι, rfl, ⟨l, s', hp, hso, rfl, hWH, hA⟩, rfl, hback, _⟩
            simp only [List.cons_append, List.nil_append]
            refine GG0 ?_
            obtain ⟨g1, g2, g3, g4, g5⟩ := hA.same
            have g6 := hA.wt
            have g7 := congrArg List.length hA.due
            simp only [List.length_append, vs, List.length_map] at g7
            refine ⟨R', wid, s', _, pu, ta, by omega, rfl, ⟨hback _ _ hWH, hA.wT, by omega, by omega, by omega, by omega, by omega, by omega⟩, ?_⟩
            simp [Kp, Env.get, gV_new]
          · have hb2 : (x1 == 2) = false := by simpa using h2
            by_cases h3 : x1 = 3
            · subst h3
              have hb : ((3 : Int) == 1) = false := rfl
              have hb' : ((3 : Int) == 2) = false := rfl
              have hb'' : ((3 : Int) == 3) = true := rfl
              (have g0 := hb; have g1 := hb'; have g2 := hb''; refine GG3 ?_; clear g0 g1 g2)
              (first | ((with_reducible first | apply RunP.call | apply Run.call | apply Run.call0); iterate 2 (· (simp only [go_sem, reduceIte, Nat.reduceEqDiff]; (try with_reducible exact rfl)))) | ((with_reducible first | apply Run.callY | apply RunP.callY); iterate 3 (· (simp only [go_sem, reduceIte, Nat.reduceEqDiff]; (try with_reducible exact rfl)))))
              refine (hLWb.call (fun W hW => take_c s [] W hW) rfl (by rintro v W' (⟨_, _, h⟩ | ⟨_, _, _, _, h⟩) <;> exact ⟨_, _, h⟩)).mono ?_
              rintro v H' ⟨R', v0, W', ι, rfl, hq, rfl, hback, _⟩
              simp only [List.cons_append, List.nil_append]
              rcases hq with ⟨hd, rfl, hWH⟩ | ⟨y, l, hd, rfl, hWH⟩
              · simp only [Val.ren, renL]
                refine GG0 ?_
                refine ⟨R', wid, s, T, pu, ta, Nat.le_refl _, rfl, ⟨hback _ _ hWH, hT, hsS, hroom, hpu, hle, by omega, by omega⟩, ?_⟩
                simp [Kp, Env.get, gV_new]
              · have e8 : ((ta : Nat) : Int) + 1 = ((ta + 1 : Nat) : Int) := rfl
                have hdl := congrArg List.length hd
                simp only [List.length_cons] at hdl
                simp only [Val.ren, renL]
                (have g0 := e8; refine GG1 ?_; clear g0)
                refine ⟨R', wid, { s with due := l }, T, pu, ta + 1, Nat.le_refl _, rfl, ⟨hback _ _ hWH, hT.less (by omega), hsS, hroom, ?_, ?_, by omega, ?_⟩, ?_⟩
                · show pu = s.wt + l.length + (ta + 1); omega
                · show s.wt + l.length ≤ 12; omega
                · show s.put ≤ i + 1; omega
                · simp [Kp, Env.get, gV_new]
            · have hb3 : (x1 == 3) = false := by simpa using h3
              (have g0 := hb1; have g1 := hb2; have g2 := hb3; refine GG3 ?_; clear g0 g1 g2)
              refine ⟨_, wid, s, T, pu, ta, Nat.le_refl _, rfl, ⟨hLWb, hT, hsS, hroom, hpu, hle, by omega, by omega⟩, ?_⟩
              simp [Kp, Env.get, gV_new]
      · clear hLWb hLW hT hsS hroom hpu hle hpi hsp hok hSp pu ta
        have hcc : ∃ c0, c0 = s.c := ⟨_, rfl⟩
        obtain ⟨c0, hcc⟩ := hcc
        rw [← hcc]
        clear hcc s T R wid
        rintro ρ H ⟨R, wid, s, T, pu, ta, hc0, rfl, ⟨hLW, hT, hsS, hroom, hpu, hle, hpi, hsp⟩, hρ⟩
        refine ei_few _ hρ ?_
        clear hρ
        have hSp : 0 < s.S := by omega
        simp only [gV_new]
        refine GG0 ?_
        (first | ((with_reducible first | apply RunP.call | apply Run.call | apply Run.call0); iterate 2 (· (simp only [go_sem, reduceIte, Nat.reduceEqDiff]; (try with_reducible exact rfl)))) | ((with_reducible first | apply Run.callY | apply RunP.callY); iterate 3 (· (simp only [go_sem, reduceIte, Nat.reduceEqDiff]; (try with_reducible exact rfl)))))
        refine (hLW.call (fun W hW => held_c s [] W hW (fun p hp => by have := hT.slots hSp hp; omega)) rfl (by rintro v W' ⟨jo, _, h⟩; exact ⟨_, _, h⟩)).mono ?_
        rintro v H' ⟨R', v0, W', ι, rfl, ⟨jo, rfl, hWH⟩, rfl, hback, hobj⟩
        obtain ⟨_, hget⟩ := hobj (jo + 7) _ (hWH.at_ (x := (jo, .rw (hC s s.S))) (by simp)) (hC_wf s 0 _)
        have hLW2 := (hback _ _ hWH).less (J' := []) (by simp)
        clear hback hobj hWH hLW
        simp only [Val.ren, List.cons_append, List.nil_append] at hget ⊢
        generalize ι (jo + 7) = id at hget
        rw [hsS] at hget ⊢
        refine GG0 ?_
        have hsum := hT.held hSp
        refine ei_loop (HlS l2 a0 S k i c0 s R' wid pu ta id) (n := S) ?_ ?_
        · refine ⟨0, Nat.zero_le _, rfl, rfl, ?_⟩
          simp [Kp, Env.get, outL]
        · rintro n ρ H ⟨q, hq, rfl, rfl, hρ⟩
          refine ei_few _ hρ ?_
          clear hρ
          by_cases hqS : q = S
          · subst hqS
            have hzq : ¬ (((q : Nat) : Int) < ((q : Nat) : Int)) := by omega
            rw [hsS] at hsum
            rw [hsS, hsum]
            have hd1 : (((s.wt : Nat) : Int) != ((s.wt : Nat) : Int)) = false := bne_self_eq_false _
            (have g0 := decide_f hzq; refine GG1 ?_; clear g0)
            (first | ((with_reducible first | apply RunP.call | apply Run.call | apply Run.call0); iterate 2 (· (simp only [go_sem, reduceIte, Nat.reduceEqDiff]; (try with_reducible exact rfl)))) | ((with_reducible first | apply Run.callY | apply RunP.callY); iterate 3 (· (simp only [go_sem, reduceIte, Nat.reduceEqDiff]; (try with_reducible exact rfl)))))
            refine (hLW2.call waits_w rfl hq1).mono ?_
            rintro v H' ⟨R1, v0, W1, ι1, rfl, ⟨rfl, hW1⟩, rfl, hback, _⟩
            have hLW3 := hback _ _ hW1
            clear hback hW1
            simp only [Val.ren, List.cons_append, List.nil_append]
            (have g0 := hd1; refine GG1 ?_; clear g0)
            (first | ((with_reducible first | apply RunP.call | apply Run.call | apply Run.call0); iterate 2 (· (simp only [go_sem, reduceIte, Nat.reduceEqDiff]; (try with_reducible exact rfl)))) | ((with_reducible first | apply Run.callY | apply RunP.callY); iterate 3 (· (simp only [go_sem, reduceIte, Nat.reduceEqDiff]; (try with_reducible exact rfl)))))
            refine (hLW3.call waits_w rfl hq1).mono ?_
            rintro v H' ⟨R2, v0, W1, ι1, rfl, ⟨rfl, hW1⟩, rfl, hback, _⟩
            have hLW4 := hback _ _ hW1
            clear hback hW1
            simp only [Val.ren, List.cons_append, List.nil_append]
            refine GG0 ?_
            (first | ((with_reducible first | apply RunP.call | apply Run.call | apply Run.call0); iterate 2 (· (simp only [go_sem, reduceIte, Nat.reduceEqDiff]; (try with_reducible exact rfl)))) | ((with_reducible first | apply Run.callY | apply RunP.callY); iterate 3 (· (simp only [go_sem, reduceIte, Nat.reduceEqDiff]; (try with_reducible exact rfl)))))
            refine (hLW4.call due_w rfl hq1).mono ?_
            rintro v H' ⟨R3, v0, W1, ι1, rfl, ⟨rfl, hW1⟩, rfl, hback, _⟩
            have hLW5 := hback _ _ hW1
            clear hback hW1
            simp only [Val.ren, List.cons_append, List.nil_append]
            have e7 : ((pu : Nat) : Int) - ((ta : Nat) : Int) = ((s.wt : Nat) : Int) + ((s.due.length : Nat) : Int) := by omega
            have hd2 : (((s.wt : Nat) : Int) + ((s.due.length : Nat) : Int) != ((s.wt : Nat) : Int) + ((s.due.length : Nat) : Int)) = false := bne_self_eq_false _
            (have g0 := e7; have g1 := hd2; refine GG2 ?_; clear g0 g1)
            (first | ((with_reducible first | apply RunP.call | apply Run.call | apply Run.call0); iterate 2 (· (simp only [go_sem, reduceIte, Nat.reduceEqDiff]; (try with_reducible exact rfl)))) | ((with_reducible first | apply Run.callY | apply RunP.callY); iterate 3 (· (simp only [go_sem, reduceIte, Nat.reduceEqDiff]; (try with_reducible exact rfl)))))
            refine (hLW5.call cursor_w rfl hq1).mono ?_
            rintro v H' ⟨R4, v0, W1, ι1, rfl, ⟨rfl, hW1⟩, rfl, hback, _⟩
            have hLW6 := hback _ _ hW1
            clear hback hW1
            simp only [Val.ren, List.cons_append, List.nil_append]
            have hd3 : ¬ (((s.c : Nat) : Int) < ((c0 : Nat) : Int)) := by omega
            (have g0 := decide_f hd3; refine GG1 ?_; clear g0)
            (first | ((with_reducible first | apply RunP.call | apply Run.call | apply Run.call0); iterate 2 (· (simp only [go_sem, reduceIte, Nat.reduceEqDiff]; (try with_reducible exact rfl)))) | ((with_reducible first | apply Run.callY | apply RunP.callY); iterate 3 (· (simp only [go_sem, reduceIte, Nat.reduceEqDiff]; (try with_reducible exact rfl)))))
            refine (hLW6.call (fun W hW => held_c s [] W hW (fun p hp => by have := hT.slots hSp hp; omega)) rfl (by rintro v W' ⟨jo, _, h⟩; exact ⟨_, _, h⟩)).mono ?_
            rintro v H' ⟨R5, v0, W', ι, rfl, ⟨jo, rfl, hWH⟩, rfl, hback, _⟩
            have hLW7 := (hback _ _ hWH).less (J' := []) (by simp)
            clear hback hWH
            rw [hsS]
            simp only [Val.ren, List.cons_append, List.nil_append]
            have hd4 : (((q : Nat) : Int) != ((q : Nat) : Int)) = false := bne_self_eq_false _
            (have g0 := e3; have g1 := e5; have g2 := hd4; refine GG3 ?_; clear g0 g1 g2)
            (first | ((with_reducible first | apply RunP.call | apply Run.call | apply Run.call0); iterate 2 (· (simp only [go_sem, reduceIte, Nat.reduceEqDiff]; (try with_reducible exact rfl)))) | ((with_reducible first | apply Run.callY | apply RunP.callY); iterate 3 (· (simp only [go_sem, reduceIte, Nat.reduceEqDiff]; (try with_reducible exact rfl)))))
            refine (hLW7.call cursor_w rfl hq1).mono ?_
            rintro v H' ⟨R6, v0, W1, ι1, rfl, ⟨rfl, hW1⟩, rfl, hback, _⟩
            have hLW8 := hback _ _ hW1
            clear hback hW1
            simp only [Val.ren, List.cons_append, List.nil_append]
            have ei : ((i : Nat) : Int) + 1 = ((i + 1 : Nat) : Int) := rfl
            (have g0 := ei; refine GG1 ?_; clear g0)
            refine ⟨k - (i + 1), by omega, i + 1, R6, wid, s, T, pu, ta, by omega, rfl, rfl, ⟨hLW8, hT, hsS, hroom, hpu, hle, hpi, hsp⟩, ?_⟩
            simp [Kp, Env.get, gV_new]
          · have hzq : (((q : Nat) : Int) < ((S : Nat) : Int)) := by omega
            have eq1 : ((q : Nat) : Int) + 1 = ((q + 1 : Nat) : Int) := rfl
            have hcq : (hC s S)[q]? = some (.i .i64 (hN s q : Nat)) := by
              simp only [hC, List.getElem?_map, List.getElem?_range (show q < S by omega), Option.map_some]
            have hs1 := hN_sum s q
            have hs2 := outL_mono s (k := q + 1) (n := s.S) (by omega)
            have es : (((outL s.S s.c s.sl q).length : Nat) : Int) + ((hN s q : Nat) : Int) = (((outL s.S s.c s.sl (q + 1)).length : Nat) : Int) := by rw [hs1]; rfl
            (have g0 := decide_t hzq; have g1 := hget; have g2 := hcq; have g3 := es; have g4 := eq1; refine GG5 ?_; clear g0 g1 g2 g3 g4)
            refine ⟨S - (q + 1), by omega, q + 1, by omega, rfl, rfl, ?_⟩
            simp [Kp, Env.get]
end Go.Proofs.YtmdilnelogechaaDoor.IR
namespace Go.Proofs.YtmdilnelogechaaDoor.IR
open Go Go.Proofs.YtmdilnelogechaaDoor.Ev Go.Proofs.YtmdilnelogechaaDoor.Ev.Rb Go.Proofs.YtmdilnelogechaaDoor.Ev.Wh Go.Proofs.YtmdilnelogechaaDoor.Ext Go.Proofs.YtmdilnelogechaaDoorW.PrintWords
set_option linter.unusedSimpArgs false
set_option linter.unusedVariables false
set_option maxHeartbeats 4000000
attribute [local go_sem] skipV nc0 nc1 nc2 nc3 bne_self_eq_false decide_true decide_false IOp.step Opd.ev Env.get initEnv Val.cells? Val.one List.all_cons List.all_nil Bool.and_true Bool.and_self Bool.true_and bin ints eqv Val.kindNo lenNo_s lenNo_nils lenNo_sl lenNo_nilm lenNo_m lenOf_s lenOf_nils lenOf_sl lenOf_nilm unary partsOf padTo List.foldl_cons List.foldl_nil wr_nil wr_step wr_zero List.set_cons_zero List.set_cons_succ List.map_cons List.map_nil z1 z2 Nat.succ_ne_zero List.length_cons List.length_nil List.cons_append List.nil_append List.append_nil List.getElem?_cons_zero List.getElem?_cons_succ List.getElem?_nil Option.map_some Option.map_none Nat.zero_add Nat.add_zero List.drop_zero List.drop_succ_cons List.take_succ_cons List.take_zero List.take_nil and_self and_true true_and Nat.le_refl Bool.not_true Bool.not_false Option.getD_some window Val.slen bnd resV resL RV.val Bool.false_eq_true BEq.rfl Bool.true_beq Bool.false_beq beq_true beq_false mk_one ite_true ite_false eqc ceqs ceq NOp.step isK eq_self
attribute [local go_sem] nat_toNat
def LW2 (A R : Heap) (w1 : Nat) (s1 : Ws) (w2 : Nat) (s2 : Ws) : Prop := ∃ (i1 : List Nat) (W1 : Heap) (i2 : List Nat) (W2 : Heap), At (A ++ R) i1 W1 ∧ At (A ++ R) i2 W2 ∧ (∀ i ∈ i1, A.length ≤ i) ∧ (∀ i ∈ i2, A.length ≤ i) ∧ (∀ i ∈ i1, i ∉ i2) ∧ nm i1 0 = w1 ∧ nm i2 0 = w2 ∧ WH s1 [] W1 ∧ WH s2 [] W2
theorem LW2.swap {A R : Heap} {w1 w2 : Nat} {s1 s2 : Ws} (h : LW2 A R w1 s1 w2 s2) : LW2 A R w2 s2 w1 s1 := by
  obtain ⟨i1, W1, i2, W2, h1, h2, h3, h4, h5, h6, h7, h8, h9⟩ := h
  exact ⟨i2, W2, i1, W1, h2, h1, h4, h3, fun i hi hj => h5 i hj hi, h7, h6, h9, h8⟩
theorem LW2.push {A R : Heap} {w1 w2 : Nat} {s1 s2 : Ws} (h : LW2 A R w1 s1 w2 s2) (R' : Heap) : LW2 A (R ++ R') w1 s1 w2 s2 := by
  obtain ⟨i1, W1, i2, W2, h1, h2, h3⟩ := h
  exact ⟨i1, W1, i2, W2, by rw [← List.append_assoc]; exact h1.push R', by rw [← List.append_assoc]; exact h2.push R', h3⟩
theorem LW2.of {A R1 R2 : Heap} {w1 w2 : Nat} {s1 s2 : Ws} (h1 : LW A R1 w1 s1 []) (h2 : LW (A ++ R1) R2 w2 s2 []) : LW2 A (R1 ++ R2) w1 s1 w2 s2 := by
  obtain ⟨i1, W1, a1, a2, a3, a4⟩ := h1
  obtain ⟨i2, W2, b1, b2, b3, b4⟩ := h2
  refine ⟨i1, W1, i2, W2, by rw [← List.append_assoc]; exact a1.push R2, by rw [← List.append_assoc]; exact b1, a2, fun i hi => ?_, fun i hi hj => ?_, a3, b3, a4, b4⟩
  · have := b2 i hi
    simp at this; omega
  · have h1 := a1.lt hi
    have h2 := b2 i hj
    omega
theorem LW2.ok {A R : Heap} {w1 w2 : Nat} {s1 s2 : Ws} (h : LW2 A R w1 s1 w2 s2) : WOk s1 := by
  obtain ⟨i1, W1, i2, W2, _, _, _, _, _, _, _, h8, _⟩ := h
  exact h8.ok
theorem LW2.call {P : Program} {A R : Heap} {w1 w2 : Nat} {s1 s2 : Ws} {f : FuncId} {xs : List Val} {Q : Val → Heap → Prop} (h : LW2 A R w1 s1 w2 s2) (c : ∀ W, WH s1 [] W → SoundCall P f (.p 0 0 :: xs) W Q) (hx : wfL 0 xs = true) (hQ : ∀ v W', Q v W' → ∃ s' J', WH s' J' W') :
    SoundCall P f (.p w1 0 :: xs) (A ++ R) (fun v H' => ∃ (R' : Heap) (v0 : Val) (W' : Heap) (ι : Nat → Nat), H' = A ++ R' ∧ Q v0 W' ∧ v = v0.ren ι ∧ ∀ s', WH s' [] W' → LW2 A R' w1 s' w2 s2) := by
  obtain ⟨ids, W, i2, W2, hat, hat2, hge, hge2, hdis, hw, hw2, hW, hW2⟩ := h
  have h7 := hW.len
  have hxr : renL (nm ids) xs = xs := by
    have e := renL_same (f := nm ids) (g := id) (n := 0) (fun x hx => by omega) xs hx
    rw [e, renL_id]
  have hcall := At.call (SoundM.long (c W hW)) hat (vs := .p 0 0 :: xs) (ws := .p w1 0 :: xs) (by
    simp only [wfL, Val.wf, Bool.and_eq_true, decide_eq_true_eq]
    exact ⟨by omega, wfL_mono (Nat.zero_le _) xs hx⟩) (by simp only [renL, Val.ren, hw, hxr])
  refine hcall.mono ?_
  rintro v H' ⟨v0, W', ⟨hq, hlong⟩, rfl, hleft⟩
  obtain ⟨R', rfl⟩ := hleft.front hge
  obtain ⟨s0, J0, hW0⟩ := hQ v0 W' hq
  have hat' := hleft.at_ hW0.wf hlong
  have htk : ids.take W.length = ids := List.take_of_length_le (by rw [hat.len]; exact Nat.le_refl _)
  have hge' := Left.ge (k := W.length) (H' := []) (C' := W') hge (show A.length ≤ (A ++ R).length by simp)
  refine ⟨R', v0, W', _, rfl, hq, rfl, fun s' hW' => ⟨_, W', i2, W2, hat', hat2.congr fun i hi => hleft.keep i (hat2.lt hi) (fun hj => hdis i hj hi), hge', hge2, fun i hi hj => ?_, ?_, hw2, hW', hW2⟩⟩
  · rcases List.mem_append.1 hi with hi | hi
    · exact hdis i (List.take_subset _ _ hi) hj
    · have h1 := List.mem_range'_1.1 hi
      have h2 := hat2.lt hj
      omega
  · rw [htk]
    have : 0 < ids.length := by rw [hat.len]; omega
    rw [← hw]
    simp only [nm, List.getD_eq_getElem?_getD]
    rw [List.getElem?_append_left this]
/-- What is due, behind any Advances: all that was put (L0) is due (d), or waits (T). -/
structure PS (s : Ws) (T : Tl) (d L0 : List Th) : Prop where
  wt : WT s T
  up : ∀ y ∈ T, (y.2 : Int) ≤ max y.1.1 (s.c : Nat)
  due : s.due = vs d
  sorted : Sorted d
  perm : (d ++ T.map (·.1)).Perm L0
  cross : ∀ x ∈ d, ∀ y ∈ T, klt (ekey x) (ekey y.1)
  done : ∀ x ∈ d, x.1 ≤ (s.c : Nat)
theorem stC_up (S c : Nat) (x : Int) (hx : 0 ≤ x) : (stC S c x : Int) ≤ max x (c : Nat) := by unfold stC; omega
theorem PS.adv {s : Ws} {T : Tl} {d L0 : List Th} (h : PS s T d L0) {t : Nat} (ht : s.c ≤ t) {l : List Th} {s' : Ws} (hp : l.Perm ((T.filter fun y => y.2 ≤ t).map (·.1))) (hso : Sorted l) (hA : AdvP s T t l s') :
    PS s' ((T.filter fun y => t < y.2) ++ again s.S t (farL t l)) (d ++ dueL t l) L0 ∧ ∀ y ∈ (T.filter fun y => t < y.2) ++ again s.S t (farL t l), ((t : Nat) : Int) < y.1.1 := by
  obtain ⟨g1, g2, g3, g4, g5⟩ := hA.same
  have hmem : ∀ x ∈ l, ∃ y ∈ T, y.1 = x := fun x hx => by
    obtain ⟨y, hy, e⟩ := List.mem_map.1 (hp.subset hx)
    exact ⟨y, (List.mem_filter.1 hy).1, e⟩
  have hlate : ∀ y ∈ (T.filter fun y => t < y.2) ++ again s.S t (farL t l), ((t : Nat) : Int) < y.1.1 := fun y hy => by
    rcases List.mem_append.1 hy with hy | hy
    · obtain ⟨h1, h2⟩ := List.mem_filter.1 hy
      have := h.up y h1
      simp at h2; omega
    · obtain ⟨x, hx, rfl⟩ := List.mem_map.1 hy
      have := (List.mem_filter.1 hx).2
      simpa using this
  have hfrom : ∀ y ∈ (T.filter fun y => t < y.2) ++ again s.S t (farL t l), ∃ z ∈ T, z.1 = y.1 := fun y hy => by
    rcases List.mem_append.1 hy with hy | hy
    · exact ⟨y, (List.mem_filter.1 hy).1, rfl⟩
    · obtain ⟨x, hx, rfl⟩ := List.mem_map.1 hy
      exact hmem x (List.mem_filter.1 hx).1
  refine ⟨⟨hA.wT, fun y hy => ?_, ?_, ?_, ?_, fun x hx y hy => ?_, fun x hx => ?_⟩, hlate⟩
  · rw [g3]
    rcases List.mem_append.1 hy with hy | hy
    · have := h.up y (List.mem_filter.1 hy).1
      omega
    · obtain ⟨x, hx, rfl⟩ := List.mem_map.1 hy
      obtain ⟨z, hz, e⟩ := hmem x (List.mem_filter.1 hx).1
      have := (h.wt.ty z hz).1
      rw [e] at this
      exact stC_up _ _ _ this
  · rw [hA.due, h.due]; simp [vs]
  · refine List.pairwise_append.2 ⟨h.sorted, List.Pairwise.sublist List.filter_sublist hso, fun a ha b hb => ?_⟩
    obtain ⟨z, hz, e⟩ := hmem b (List.mem_filter.1 hb).1
    rw [← e]; exact h.cross a ha z hz
  · have hdf : l.Perm (dueL t l ++ farL t l) := by
      have := filter_two (l := l) (p := fun x : Th => decide (x.1 ≤ (t : Nat))) (q := fun x : Th => decide (((t : Nat) : Int) < x.1)) (r := fun _ => true) (fun x _ => by
        constructor
        · rw [Bool.eq_iff_iff]; simp; omega
        · simp)
      rwa [List.filter_eq_self.2 fun _ _ => rfl] at this
    have hTp := (split_perm t T).map (·.1)
    rw [List.map_append] at hTp ⊢
    have e2 : (again s.S t (farL t l)).map (·.1) = farL t l := by
      unfold again
      rw [List.map_map]
      exact List.map_id _
    rw [e2]
    refine List.Perm.trans ?_ h.perm
    rw [List.append_assoc]
    refine List.Perm.append_left d ?_
    refine List.Perm.trans ?_ hTp.symm
    refine List.Perm.trans ?_ (List.Perm.append_right _ (hdf.symm.trans hp))
    rw [List.append_assoc]
    exact List.Perm.append_left _ List.perm_append_comm
  · obtain ⟨z, hz, e⟩ := hfrom y hy
    rcases List.mem_append.1 hx with hx | hx
    · rw [← e]; exact h.cross x hx z hz
    · have h1 := hlate y hy
      have h2 := (List.mem_filter.1 hx).2
      simp at h2
      left
      show x.1 < y.1.1
      omega
  · rw [g3]
    rcases List.mem_append.1 hx with hx | hx
    · have := h.done x hx; omega
    · simpa using (List.mem_filter.1 hx).2
/-- All that is due to an instant is due, in the one order that there is. -/
theorem PS.same {s s' : Ws} {T T' : Tl} {d d' L0 : List Th} (h : PS s T d L0) (h' : PS s' T' d' L0) (hc : s.c = s'.c) (hl : ∀ y ∈ T, (s.c : Int) < y.1.1) (hl' : ∀ y ∈ T', (s'.c : Int) < y.1.1) : d = d' ∧ s.wt = s'.wt := by
  have key : ∀ {s : Ws} {T : Tl} {d : List Th}, PS s T d L0 → (∀ y ∈ T, (s.c : Int) < y.1.1) → d.Perm (L0.filter fun x => x.1 ≤ (s.c : Nat)) := fun {s T d} h hl => by
    have hp := h.perm.filter (fun x : Th => decide (x.1 ≤ (s.c : Nat)))
    rw [List.filter_append, List.filter_eq_self.2 (fun x hx => by simpa using h.done x hx), List.filter_eq_nil_iff.2 (fun x hx => by
      obtain ⟨y, hy, e⟩ := List.mem_map.1 hx
      have := hl y hy
      rw [e] at this
      simp; omega), List.append_nil] at hp
    exact hp
  have h1 := key h hl
  have h2 := key h' hl'
  rw [← hc] at h2
  have hd : d = d' := sorted_eq h.sorted h'.sorted (h1.trans h2.symm)
  subst hd
  refine ⟨rfl, ?_⟩
  have l1 := h.perm.length_eq
  have l2 := h'.perm.length_eq
  simp only [List.length_append, List.length_map, h.wt.len, h'.wt.len] at l1 l2
  omega
end Go.Proofs.YtmdilnelogechaaDoor.IR
namespace Go.Proofs.YtmdilnelogechaaDoor.IR
open Go Go.Proofs.YtmdilnelogechaaDoor.Ev Go.Proofs.YtmdilnelogechaaDoor.Ev.Rb Go.Proofs.YtmdilnelogechaaDoor.Ev.Wh Go.Proofs.YtmdilnelogechaaDoor.Ext Go.Proofs.YtmdilnelogechaaDoorW.PrintWords
set_option linter.unusedSimpArgs false
set_option linter.unusedVariables false
set_option maxHeartbeats 4000000
attribute [local go_sem] skipV nc0 nc1 nc2 nc3 bne_self_eq_false decide_true decide_false IOp.step Opd.ev Env.get initEnv Val.cells? Val.one List.all_cons List.all_nil Bool.and_true Bool.and_self Bool.true_and bin ints eqv Val.kindNo lenNo_s lenNo_nils lenNo_sl lenNo_nilm lenNo_m lenOf_s lenOf_nils lenOf_sl lenOf_nilm unary partsOf padTo List.foldl_cons List.foldl_nil wr_nil wr_step wr_zero List.set_cons_zero List.set_cons_succ List.map_cons List.map_nil z1 z2 Nat.succ_ne_zero List.length_cons List.length_nil List.cons_append List.nil_append List.append_nil List.getElem?_cons_zero List.getElem?_cons_succ List.getElem?_nil Option.map_some Option.map_none Nat.zero_add Nat.add_zero List.drop_zero List.drop_succ_cons List.take_succ_cons List.take_zero List.take_nil and_self and_true true_and Nat.le_refl Bool.not_true Bool.not_false Option.getD_some window Val.slen bnd resV resL RV.val Bool.false_eq_true BEq.rfl Bool.true_beq Bool.false_beq beq_true beq_false mk_one ite_true ite_false eqc ceqs ceq NOp.step isK eq_self
attribute [local go_sem] nat_toNat mxM mnM getC getC2 setC wr1 Nat.mul_one wC
attribute [local go_sem high] len7 get7 set7
/-- The least place of all that waits. -/
def NxP (s : Ws) (T : Tl) (v : Val) : Prop := (s.wt = 0 ∧ v = .tup [.i .u64 0, .b false]) ∨ ∃ m, s.wt ≠ 0 ∧ (∃ y ∈ T, y.2 = m) ∧ (∀ z ∈ T, m ≤ z.2) ∧ v = .tup [.i .u64 (satN (m * s.w) : Nat), .b true]
theorem rt_mem {S c hi : Nat} {f : Nat → List Th} {T : Tl} (h : RT S c hi f T) {q : Nat} (hq : q < S) : f q ≠ [] ↔ ∃ y ∈ T, y.2 % S = q := by
  have hp := (h.slot q hq).length_eq
  rw [List.length_map] at hp
  constructor
  · intro hn
    have : 0 < (f q).length := List.length_pos_iff.2 hn
    rw [hp] at this
    obtain ⟨y, hy⟩ := List.exists_mem_of_length_pos this
    exact ⟨y, (List.mem_filter.1 hy).1, by simpa using (List.mem_filter.1 hy).2⟩
  · rintro ⟨y, hy, e⟩ hn
    rw [hn] at hp
    have : y ∈ T.filter (fun y => decide (y.2 % S = q)) := List.mem_filter.2 ⟨hy, by simpa using e⟩
    rw [List.length_eq_zero_iff.1 hp.symm] at this
    cases this
theorem next_w (s : Ws) (J : Jl) (H : Heap) (hH : WH s J H) (T : Tl) (hT : WT s T) : SoundCall Tryd.prog 16 [.p 0 0] H (fun v H' => NxP s T v ∧ WH s J H') := by
  have hH0 := hH
  obtain ⟨b, dv, cells, D, tag, rfl, hD, hb, hm, hk⟩ := hH
  obtain ⟨k1, k2, k3, k4, k5, k6, k7, k8, k9⟩ := hk
  have hS0 : 0 < s.S := by omega
  refine (sound_func Tryd.func16 c16 rfl (Nat.le_refl _) ?_)
  simp only [e16, s16, WHb]
  refine GG0 ?_
  (first | ((with_reducible first | apply RunP.call | apply Run.call | apply Run.call0); iterate 2 (· (simp only [go_sem, reduceIte, Nat.reduceEqDiff]; (try with_reducible exact rfl)))) | ((with_reducible first | apply Run.callY | apply RunP.callY); iterate 3 (· (simp only [go_sem, reduceIte, Nat.reduceEqDiff]; (try with_reducible exact rfl)))))
  refine (wnone _ _ _ _ _ _ _ _).mono ?_
  rintro v H' ⟨rfl, rfl⟩
  by_cases hw0 : s.wt = 0
  · have hz : (((s.wt : Nat) : Int) == 0) = true := by simp [hw0]
    (have g0 := hz; refine GG1 ?_; clear g0)
    exact ⟨.inl ⟨hw0, rfl⟩, hH0⟩
  · have hz : (((s.wt : Nat) : Int) == 0) = false := beq_false_of_ne (by omega)
    have hpS : s.c % s.S < s.S := Nat.mod_lt _ hS0
    obtain ⟨p, hp⟩ : ∃ p, p = s.c % s.S := ⟨_, rfl⟩
    (have g0 := hz; refine GG1 ?_; clear g0)
    (first | ((with_reducible first | apply RunP.call | apply Run.call | apply Run.call0); iterate 2 (· (simp only [go_sem, reduceIte, Nat.reduceEqDiff]; (try with_reducible exact rfl)))) | ((with_reducible first | apply Run.callY | apply RunP.callY); iterate 3 (· (simp only [go_sem, reduceIte, Nat.reduceEqDiff]; (try with_reducible exact rfl)))))
    refine (wplace s.S s.w s.c dv s.room s.wt s.put _ _ (by omega) k2 (by omega) (by omega)).mono ?_
    rintro v H' ⟨rfl, rfl⟩
    rw [Int.toNat_natCast, ← hp]
    rw [← hp] at hpS
    refine GG0 ?_
    (first | ((with_reducible first | apply RunP.call | apply Run.call | apply Run.call0); iterate 2 (· (simp only [go_sem, reduceIte, Nat.reduceEqDiff]; (try with_reducible exact rfl)))) | ((with_reducible first | apply Run.callY | apply RunP.callY); iterate 3 (· (simp only [go_sem, reduceIte, Nat.reduceEqDiff]; (try with_reducible exact rfl)))))
    refine sound_use (roundP b hb.ok (p : Nat)) [2, 3, 4, 5, 6] rfl (by decide) ?_ ?_ ?_ ?_ ?_; iterate 4 (· simp [-List.map_map, embAt, nm, rn_rw, rn_ro, rn_map, rn_iter, rn_dead, renL, Val.ren, wfAll, wn_rw, wn_ro, wn_map, wn_iter, wn_dead, wfL, Val.wf, Env.get, initEnv, BB.hd_ren, BB.fl_ren, BB.o2_ren, BB.o3_ren, BB.o4_ren, BB.hd_wf, BB.fl_wf, BB.o2_wf, BB.o3_wf, BB.o4_wf, BB.pad])
    rintro v C' ⟨rfl, o, ho, rfl⟩
    simp only [merge, place, after, nm, MG, Val.ren, renL, rn_rw, rn_ro, rn_map, rn_iter, rn_dead, reduceIte, Nat.reduceLT, Nat.reduceAdd, Nat.reduceSub, Nat.lt_irrefl, Nat.zero_lt_one, Nat.zero_lt_succ, BB.hd_ren, BB.fl_ren, BB.o2_ren, BB.o3_ren, BB.o4_ren, BB.hd_wf, BB.fl_wf, BB.o2_wf, BB.o3_wf, BB.o4_wf, BB.pad, ans_ren]
    rw [Int.toNat_natCast] at ho
    have hbel := hb.ok.below
    rw [hb.n] at hbel
    have hmk : ∀ q, q < s.S → (b.p q = true ↔ ∃ y ∈ T, y.2 % s.S = q) := fun q hq => (hm q hq).trans (rt_mem hT.rt hq)
    obtain ⟨y0, hy0⟩ : ∃ y, y ∈ T := List.exists_mem_of_length_pos (by rw [hT.len]; omega)
    have hmk0 := (hmk (y0.2 % s.S) (Nat.mod_lt _ hS0)).2 ⟨y0, hy0, rfl⟩
    rcases o with _ | i
    · rcases ho with ⟨i, _, e⟩ | ⟨_, h0⟩
      · cases e
      · have := h0 (y0.2 % s.S) (Nat.zero_le _)
        rw [hmk0] at this; cases this
    · obtain ⟨hi, hmi, hrd⟩ : i < s.S ∧ b.p i = true ∧ ((p ≤ i ∧ ∀ q, p ≤ q → q < i → b.p q = false) ∨ (i < p ∧ (∀ q, p ≤ q → b.p q = false) ∧ ∀ q, q < i → b.p q = false)) := by
        have hlt : ∀ q, b.p q = true → q < s.S := fun q h => by
          rcases Nat.lt_or_ge q s.S with g | g
          · exact g
          · rw [hbel q g] at h; cases h
        rcases ho with ⟨i', h1, e⟩ | ⟨h1, h2⟩
        · cases e
          exact ⟨hlt _ h1.is, h1.is, .inl ⟨h1.ge, h1.le⟩⟩
        · refine ⟨hlt _ h2.is, h2.is, .inr ⟨?_, h1, fun q h => h2.le q (Nat.zero_le _) h⟩⟩
          rcases Nat.lt_or_ge i p with g | g
          · exact g
          · have := h1 i g; rw [h2.is] at this; cases this
      obtain ⟨g1, g2, g3⟩ := round_dist hpS hi hrd
      obtain ⟨δ, hδ⟩ : ∃ δ, δ = (i + s.S - p) % s.S := ⟨_, rfl⟩
      rw [← hδ] at g1 g2 g3
      have e7 : (((i : Nat) : Int) - ((p : Nat) : Int) + ((s.S : Nat) : Int)).tmod ((s.S : Nat) : Int) = ((δ : Nat) : Int) := by
        rw [tmodN _ _ (by omega) (by omega), hδ]
        congr 2; omega
      obtain ⟨y, hy, hyi⟩ := (hmk i hi).1 hmi
      have hylo := hT.rt.lo y hy
      have hyhi := hT.rt.hi y hy
      have hym : y.2 = s.c + δ := by
        obtain ⟨d, hd⟩ : ∃ d, y.2 = s.c + d := ⟨y.2 - s.c, by omega⟩
        rw [hd] at hyi ⊢
        have e : (s.c + d) % s.S = (s.c + δ) % s.S := by rw [hyi, mod_add2, ← hp, g1]
        rw [place_inj (by omega) g2 e]
      have hall : ∀ z ∈ T, s.c + δ ≤ z.2 := fun z hz => by
        have hzlo := hT.rt.lo z hz
        have hzhi := (hT.rt.hi z hz).2
        rcases Nat.lt_or_ge z.2 (s.c + δ) with g | g
        · exfalso
          have h1 := g3 (z.2 - s.c) (by omega)
          rw [hp, ← mod_add2, show s.c + (z.2 - s.c) = z.2 by omega] at h1
          have h2 := (hmk (z.2 % s.S) (Nat.mod_lt _ hS0)).2 ⟨z, hz, rfl⟩
          rw [h1] at h2; cases h2
        · exact g
      have hmx : s.c + δ ≤ 18446744073709551615 := by
        have := hyhi.1
        unfold hiC satN at this
        omega
      have hsat : satN (s.c + δ) = s.c + δ := by unfold satN; omega
      simp only [ans]
      (have g0 := e7; refine GG1 ?_; clear g0)
      (first | ((with_reducible first | apply RunP.call | apply Run.call | apply Run.call0); iterate 2 (· (simp only [go_sem, reduceIte, Nat.reduceEqDiff]; (try with_reducible exact rfl)))) | ((with_reducible first | apply Run.callY | apply RunP.callY); iterate 3 (· (simp only [go_sem, reduceIte, Nat.reduceEqDiff]; (try with_reducible exact rfl)))))
      refine (add_ok s.c δ k5 (by omega) _).mono ?_
      rintro v H' ⟨rfl, rfl⟩
      rw [hsat]
      (first | refine And.intro rfl ?_ | refine And.intro trivial ?_ | skip)
      refine GG0 ?_
      (first | ((with_reducible first | apply RunP.call | apply Run.call | apply Run.call0); iterate 2 (· (simp only [go_sem, reduceIte, Nat.reduceEqDiff]; (try with_reducible exact rfl)))) | ((with_reducible first | apply Run.callY | apply RunP.callY); iterate 3 (· (simp only [go_sem, reduceIte, Nat.reduceEqDiff]; (try with_reducible exact rfl)))))
      refine (begin_ok (s.c + δ) s.w hmx k3 (by omega) _).mono ?_
      rintro v H' ⟨rfl, rfl⟩
      (first | refine And.intro rfl ?_ | refine And.intro trivial ?_ | skip)
      refine GG0 ?_
      exact ⟨.inr ⟨s.c + δ, hw0, ⟨y, hy, hym⟩, hall, rfl⟩, hH0⟩
end Go.Proofs.YtmdilnelogechaaDoor.IR
namespace Go.Proofs.YtmdilnelogechaaDoor.IR
open Go Go.Proofs.YtmdilnelogechaaDoor.Ev Go.Proofs.YtmdilnelogechaaDoor.Ev.Rb Go.Proofs.YtmdilnelogechaaDoor.Ev.Wh Go.Proofs.YtmdilnelogechaaDoor.Ext Go.Proofs.YtmdilnelogechaaDoorW.PrintWords
def LK (A R : Heap) (wid : Nat) (s : Ws) (K : Jl) : Prop := ∃ (ids : List Nat) (W : Heap), At (A ++ R) ids W ∧ (∀ i ∈ ids, A.length ≤ i) ∧ nm ids 0 = wid ∧ WH s [] W ∧ ∀ x ∈ K, A.length + x.1 ∉ ids ∧ R[x.1]? = some x.2
theorem LK.of {A R : Heap} {wid : Nat} {s : Ws} (h : LW A R wid s []) : LK A R wid s [] := by
  obtain ⟨ids, W, h1, h2, h3, h4⟩ := h
  exact ⟨ids, W, h1, h2, h3, h4, by simp⟩
theorem LK.ok {A R : Heap} {wid : Nat} {s : Ws} {K : Jl} (h : LK A R wid s K) : WOk s := by
  obtain ⟨ids, W, h1, h2, h3, h4, h5⟩ := h
  exact h4.ok
theorem LK.get {A R : Heap} {wid : Nat} {s : Ws} {K : Jl} (h : LK A R wid s K) (x : Nat × AObj) (hx : x ∈ K) : R[x.1]? = some x.2 := by
  obtain ⟨ids, W, h1, h2, h3, h4, h5⟩ := h
  exact (h5 x hx).2
theorem LK.less {A R : Heap} {wid : Nat} {s : Ws} {K K' : Jl} (h : LK A R wid s K) (hK : ∀ x ∈ K', x ∈ K) : LK A R wid s K' := by
  obtain ⟨ids, W, h1, h2, h3, h4, h5⟩ := h
  exact ⟨ids, W, h1, h2, h3, h4, fun x hx => h5 x (hK x hx)⟩
theorem LK.push {A R : Heap} {wid : Nat} {s : Ws} {K : Jl} (h : LK A R wid s K) (R' : Heap) : LK A (R ++ R') wid s K := by
  obtain ⟨ids, W, h1, h2, h3, h4, h5⟩ := h
  refine ⟨ids, W, by rw [← List.append_assoc]; exact h1.push R', h2, h3, h4, fun x hx => ⟨(h5 x hx).1, ?_⟩⟩
  rw [List.getElem?_append_left (List.getElem?_eq_some_iff.1 (h5 x hx).2).1]
  exact (h5 x hx).2
theorem LK.pushK {A R : Heap} {wid : Nat} {s : Ws} {K : Jl} (h : LK A R wid s K) (o : AObj) : LK A (R ++ [o]) wid s ((R.length, o) :: K) := by
  obtain ⟨ids, W, h1, h2, h3, h4, h5⟩ := h
  refine ⟨ids, W, by rw [← List.append_assoc]; exact h1.push _, h2, h3, h4, fun x hx => ?_⟩
  rcases List.mem_cons.1 hx with rfl | hx
  · refine ⟨fun hi => ?_, by simp⟩
    have := h1.lt hi
    simp at this
  · refine ⟨(h5 x hx).1, ?_⟩
    rw [List.getElem?_append_left (List.getElem?_eq_some_iff.1 (h5 x hx).2).1]
    exact (h5 x hx).2
theorem LK.set {A R : Heap} {wid : Nat} {s : Ws} {K : Jl} {j : Nat} {o : AObj} (h : LK A R wid s ((j, o) :: K)) (hj : ∀ x ∈ K, x.1 ≠ j) (o' : AObj) : LK A (R.set j o') wid s ((j, o') :: K) := by
  obtain ⟨ids, W, h1, h2, h3, h4, h5⟩ := h
  obtain ⟨g1, g2⟩ := h5 (j, o) (by simp)
  have hlt := (List.getElem?_eq_some_iff.1 g2).1
  refine ⟨ids, W, h1.congr fun i hi => ?_, h2, h3, h4, fun x hx => ?_⟩
  · have hne : i ≠ A.length + j := by rintro rfl; exact g1 hi
    have hge := h2 i hi
    rw [List.getElem?_append_right hge, List.getElem?_append_right hge, List.getElem?_set_ne (by omega)]
  · rcases List.mem_cons.1 hx with rfl | hx
    · exact ⟨g1, by simp only [List.getElem?_set_self hlt]⟩
    · refine ⟨(h5 x (by simp [hx])).1, ?_⟩
      rw [List.getElem?_set_ne (fun e => hj x hx e.symm)]
      exact (h5 x (by simp [hx])).2
/-- An append to one of two objects: its own old one is dead, the new one stands behind all others. -/
theorem LK.app {A R : Heap} {wid : Nat} {s : Ws} {j1 j2 : Nat} {o1 o2 : AObj} (h : LK A R wid s [(j1, o1), (j2, o2)]) (hj : j1 ≠ j2) (o' : AObj) : LK A (R.set j1 .dead ++ [o']) wid s [(j2, o2), (R.length, o')] ∧ j2 < R.length := by
  have h2 := (h.set (fun x hx => by simp only [List.mem_singleton] at hx; subst hx; exact hj.symm) .dead).pushK o'
  rw [List.length_set] at h2
  refine ⟨h2.less fun x hx => ?_, (List.getElem?_eq_some_iff.1 (h.get (j2, o2) (by simp))).1⟩
  simp only [List.mem_cons, List.not_mem_nil, or_false] at hx ⊢
  rcases hx with rfl | rfl <;> simp
theorem LK.call {P : Program} {A R : Heap} {wid : Nat} {s : Ws} {K : Jl} {f : FuncId} {xs : List Val} {Q : Val → Heap → Prop} (h : LK A R wid s K) (c : ∀ W, WH s [] W → SoundCall P f (.p 0 0 :: xs) W Q) (hx : wfL 0 xs = true) (hQ : ∀ v W', Q v W' → ∃ s' J', WH s' J' W') :
    SoundCall P f (.p wid 0 :: xs) (A ++ R) (fun v H' => ∃ (R' : Heap) (v0 : Val) (W' : Heap) (ι : Nat → Nat), H' = A ++ R' ∧ Q v0 W' ∧ v = v0.ren ι ∧ ∀ s', WH s' [] W' → LK A R' wid s' K) := by
  obtain ⟨ids, W, hat, hge, hw, hW, hK⟩ := h
  have h7 := hW.len
  have hxr : renL (nm ids) xs = xs := by
    have e := renL_same (f := nm ids) (g := id) (n := 0) (fun x hx => by omega) xs hx
    rw [e, renL_id]
  have hcall := At.call (SoundM.long (c W hW)) hat (vs := .p 0 0 :: xs) (ws := .p wid 0 :: xs) (by
    simp only [wfL, Val.wf, Bool.and_eq_true, decide_eq_true_eq]
    exact ⟨by omega, wfL_mono (Nat.zero_le _) xs hx⟩) (by simp only [renL, Val.ren, hw, hxr])
  refine hcall.mono ?_
  rintro v H' ⟨v0, W', ⟨hq, hlong⟩, rfl, hleft⟩
  obtain ⟨R', rfl⟩ := hleft.front hge
  obtain ⟨s0, J0, hW0⟩ := hQ v0 W' hq
  have hat' := hleft.at_ hW0.wf hlong
  have htk : ids.take W.length = ids := List.take_of_length_le (by rw [hat.len]; exact Nat.le_refl _)
  have hge' := Left.ge (k := W.length) (H' := []) (C' := W') hge (show A.length ≤ (A ++ R).length by simp)
  refine ⟨R', v0, W', _, rfl, hq, rfl, fun s' hW' => ⟨_, W', hat', hge', ?_, hW', fun x hx => ?_⟩⟩
  · rw [htk]
    have : 0 < ids.length := by rw [hat.len]; omega
    rw [← hw]
    simp only [nm, List.getD_eq_getElem?_getD]
    rw [List.getElem?_append_left this]
  · obtain ⟨g1, g2⟩ := hK x hx
    have hlt := (List.getElem?_eq_some_iff.1 g2).1
    have hl2 : A.length + x.1 < (A ++ R).length := by simp; omega
    constructor
    · rw [htk]
      intro hi
      rcases List.mem_append.1 hi with hi | hi
      · exact g1 hi
      · have := List.mem_range'_1.1 hi
        omega
    · have h1 := hleft.keep _ hl2 g1
      rw [List.getElem?_append_right (by omega), List.getElem?_append_right (by omega), Nat.add_sub_cancel_left] at h1
      rw [h1]; exact g2
/-- What the laws keep of each that was put. -/
def Thj (qs : List Nat) (cm : List Bool) (w : Nat) (x : Th) : Prop := ∃ j a, qs[j]? = some a ∧ cm[j]? = some false ∧ x = (((slotN a w : Nat) : Int), ((j : Nat) : Int), ((j : Nat) : Int))
structure DI (s : Ws) (T : Tl) (d : List Th) (qs : List Nat) (cm : List Bool) (w now : Nat) : Prop where
  wt : WT s T
  up : ∀ y ∈ T, (y.2 : Int) ≤ max y.1.1 (s.c : Nat)
  st : s.w = w ∧ s.room = 200 ∧ s.c = now / w ∧ s.put = qs.length ∧ s.wt ≤ qs.length
  due : s.due = vs d
  sorted : Sorted d
  len : cm.length = qs.length
  mem : ∀ x, (x ∈ d ∨ x ∈ T.map (·.1)) ↔ Thj qs cm w x
  done : ∀ x ∈ d, x.1 ≤ (s.c : Nat)
theorem DI.init {S w : Nat} (hS : 2 ≤ S) : DI (Wd.init S w 200) [] [] [] [] w 0 := by
  refine ⟨WT.init hS, by simp, ⟨rfl, rfl, by simp [Wd.init], rfl, Nat.le_refl _⟩, rfl, .nil, rfl, fun x => ?_, by simp⟩
  constructor
  · rintro (h | h) <;> simp at h
  · rintro ⟨j, a, h, _⟩; simp at h
theorem snoc_get {α : Type} {l : List α} {x y : α} {j : Nat} (h : (l ++ [x])[j]? = some y) : l[j]? = some y ∨ (j = l.length ∧ x = y) := by
  rcases Nat.lt_trichotomy j l.length with g | g | g
  · rw [List.getElem?_append_left g] at h; exact .inl h
  · subst g; simp at h; exact .inr ⟨rfl, h⟩
  · rw [List.getElem?_eq_none (by simp; omega)] at h; cases h
theorem get_snoc {α : Type} {l : List α} {x y : α} {j : Nat} (h : l[j]? = some y) : (l ++ [x])[j]? = some y := by
  rw [List.getElem?_append_left (List.getElem?_eq_some_iff.1 h).1]; exact h
theorem DI.put {s : Ws} {T : Tl} {qs : List Nat} {cm : List Bool} {w now : Nat} (h : DI s T [] qs cm w now) (hk : WOk s) {t : Nat} (ht : t ≤ 18446744073709551615) (hn : qs.length < 200) :
    DI (put1 s (qs.length : Nat) t) (T ++ tlP s (qs.length : Nat) t) [] (qs ++ [t]) (cm ++ [false]) w now := by
  obtain ⟨g1, g2, g3, g4, g5⟩ := h.st
  have hd := h.due
  refine ⟨h.wt.put hk ht (by rw [hd, g2]; simp [vs]; omega), fun y hy => ?_, ⟨g1, g2, g3, ?_, ?_⟩, hd, .nil, by simp [h.len], fun x => ?_, by simp⟩
  · rcases List.mem_append.1 hy with hy | hy
    · exact h.up y hy
    · simp only [tlP, List.mem_singleton] at hy
      subst hy
      exact stC_up _ _ _ (by show (0 : Int) ≤ (slotN t s.w : Nat); omega)
  · show s.put + 1 = _; simp; exact g4
  · show s.wt + 1 ≤ _; simp; exact g5
  · have hmem := h.mem x
    have hlen := h.len
    rw [List.map_append, List.mem_append]
    constructor
    · rintro (h | h | h)
      · cases h
      · obtain ⟨j, a, h1, h2, h3⟩ := hmem.1 (.inr h)
        exact ⟨j, a, get_snoc h1, get_snoc h2, h3⟩
      · simp only [tlP, List.map_cons, List.map_nil, List.mem_singleton] at h
        refine ⟨qs.length, t, by simp, by rw [← hlen]; simp, ?_⟩
        rw [h]
        simp only [newT, g1, g4]
    · rintro ⟨j, a, h1, h2, h3⟩
      right
      rcases snoc_get h1 with h1 | ⟨rfl, rfl⟩
      · left
        rcases snoc_get h2 with h2 | ⟨rfl, _⟩
        · rcases hmem.2 ⟨j, a, h1, h2, h3⟩ with h | h
          · cases h
          · exact h
        · rw [h.len, List.getElem?_eq_none (Nat.le_refl _)] at h1; cases h1
      · right
        simp only [tlP, List.map_cons, List.map_nil, List.mem_singleton, newT, g1, g4]
        exact h3
theorem DI.adv {s : Ws} {T : Tl} {qs : List Nat} {cm : List Bool} {w now : Nat} (h : DI s T [] qs cm w now) (t : Nat) {l : List Th} {s' : Ws} (hp : l.Perm ((T.filter fun y => y.2 ≤ max s.c (t / s.w)).map (·.1))) (hso : Sorted l) (hA : AdvP s T (max s.c (t / s.w)) l s') :
    DI s' ((T.filter fun y => max s.c (t / s.w) < y.2) ++ again s.S (max s.c (t / s.w)) (farL (max s.c (t / s.w)) l)) (dueL (max s.c (t / s.w)) l) qs cm w (max now t) ∧
    ∀ y ∈ (T.filter fun y => max s.c (t / s.w) < y.2) ++ again s.S (max s.c (t / s.w)) (farL (max s.c (t / s.w)) l), ((max now t / w : Nat) : Int) < y.1.1 := by
  obtain ⟨g1, g2, g3, g4, g5⟩ := h.st
  obtain ⟨f1, f2, f3, f4, f5⟩ := hA.same
  have f6 := hA.wt
  have hps : PS s T [] (T.map (·.1)) := ⟨h.wt, h.up, h.due, .nil, .refl _, by simp, by simp⟩
  obtain ⟨hP, hl⟩ := hps.adv (Nat.le_max_left _ _) hp hso hA
  have hc : max s.c (t / s.w) = max now t / w := by
    rw [g3, g1]
    rcases Nat.le_total now t with h | h
    · rw [Nat.max_eq_right h, Nat.max_eq_right (Nat.div_le_div_right h)]
    · rw [Nat.max_eq_left h, Nat.max_eq_left (Nat.div_le_div_right h)]
  refine ⟨⟨hP.wt, hP.up, ⟨by omega, by omega, by omega, by omega, by omega⟩, hP.due, hP.sorted, h.len, fun x => ?_, hP.done⟩, fun y hy => ?_⟩
  · rw [← h.mem x]
    have := hP.perm.mem_iff (a := x)
    rw [List.nil_append, List.mem_append] at this
    simp only [List.not_mem_nil, false_or]
    exact this
  · have := hl y hy
    rw [hc] at this; exact this
/-- Those that came are marked. -/
def Mk (d : List Th) (cm cm' : List Bool) : Prop := ∀ j : Nat, cm'[j]? = (cm[j]?).map fun b => b || d.any fun x => x.2.2 == (j : Nat)
theorem Mk.nil (cm : List Bool) : Mk [] cm cm := fun j => by simp
theorem Mk.len {d : List Th} {cm cm' : List Bool} (h : Mk d cm cm') : cm'.length = cm.length := by
  have key : ∀ j, j < cm'.length ↔ j < cm.length := fun j => by
    have := h j
    constructor
    · intro hj
      rw [List.getElem?_eq_getElem hj] at this
      rcases Nat.lt_or_ge j cm.length with g | g
      · exact g
      · rw [List.getElem?_eq_none g] at this; cases this
    · intro hj
      rw [List.getElem?_eq_getElem hj] at this
      rcases Nat.lt_or_ge j cm'.length with g | g
      · exact g
      · rw [List.getElem?_eq_none g] at this; cases this
  have h1 := key cm.length
  have h2 := key cm'.length
  omega
theorem Mk.step {d : List Th} {cm cm' : List Bool} (h : Mk d cm cm') {x : Th} {j : Nat} (hx : x.2.2 = (j : Nat)) : Mk (d ++ [x]) cm (cm'.set j true) := fun i => by
  rw [List.getElem?_set, List.any_append]
  have := h i
  by_cases e : j = i
  · subst e
    rw [if_pos rfl]
    by_cases hj : j < cm'.length
    · rw [if_pos hj, List.getElem?_eq_getElem (by rw [← h.len]; exact hj)]
      simp [hx]
    · rw [if_neg hj, List.getElem?_eq_none (by rw [← h.len]; omega)]; rfl
  · rw [if_neg e, this]
    have : (x.2.2 == (i : Int)) = false := by rw [hx]; simp; omega
    simp [this]
theorem DI.nodup {s : Ws} {T : Tl} {d : List Th} {qs : List Nat} {cm : List Bool} {w now : Nat} (h : DI s T d qs cm w now) {q : Nat} {x : Th} (hx : d[q]? = some x) : ∀ y ∈ d.take q, y.2.2 ≠ x.2.2 := fun y hy e => by
  have hxm := List.mem_of_getElem? hx
  have hym := List.take_subset _ _ hy
  obtain ⟨j, a, h1, _, rfl⟩ := (h.mem x).1 (.inl hxm)
  obtain ⟨j', a', h1', _, rfl⟩ := (h.mem y).1 (.inl hym)
  simp only [Int.natCast_inj] at e
  subst e
  rw [h1] at h1'
  obtain rfl : a = a' := by simpa using h1'
  obtain ⟨hq, e⟩ := List.getElem?_eq_some_iff.1 hx
  have hd : d = d.take q ++ d[q] :: d.drop (q + 1) := by rw [← List.drop_eq_getElem_cons hq, List.take_append_drop]
  have hs := h.sorted
  unfold Sorted at hs
  rw [hd] at hs
  have := (List.pairwise_append.1 hs).2.2 _ hy d[q] (by exact List.mem_cons_self)
  rw [e] at this
  exact klt_irrefl _ this
/-- Behind all the takes: none is due, and those that wait are those that did not come. -/
theorem DI.take {s : Ws} {T : Tl} {d : List Th} {qs : List Nat} {cm cm' : List Bool} {w now : Nat} (h : DI s T d qs cm w now) (hl : ∀ y ∈ T, ((now / w : Nat) : Int) < y.1.1) (hm : Mk d cm cm') : DI { s with due := [] } T [] qs cm' w now := by
  obtain ⟨g1, g2, g3, g4, g5⟩ := h.st
  refine ⟨h.wt.less (by simp), h.up, ⟨g1, g2, g3, g4, g5⟩, rfl, .nil, by rw [hm.len, h.len], fun x => ?_, by simp⟩
  simp only [List.not_mem_nil, false_or]
  constructor
  · intro hx
    obtain ⟨j, a, h1, h2, rfl⟩ := (h.mem x).1 (.inr hx)
    refine ⟨j, a, h1, ?_, rfl⟩
    have := hm j
    rw [h2] at this
    rw [this]
    have hn : (d.any fun x => x.2.2 == ((j : Nat) : Int)) = false := by
      rw [List.any_eq_false]
      intro y hy e
      obtain ⟨j', a', h1', _, rfl⟩ := (h.mem y).1 (.inl hy)
      simp only [beq_iff_eq, Int.natCast_inj] at e
      subst e
      rw [h1] at h1'
      obtain rfl : a = a' := by simpa using h1'
      obtain ⟨z, hz, e⟩ := List.mem_map.1 hx
      have h3 := hl z hz
      have h4 := h.done _ hy
      rw [e] at h3
      simp only at h3 h4
      rw [g3] at h4
      omega
    rw [hn]; rfl
  · rintro ⟨j, a, h1, h2, rfl⟩
    have := hm j
    rw [h2] at this
    obtain ⟨b, hb⟩ : ∃ b, cm[j]? = some b := ⟨cm[j]'(by have := (List.getElem?_eq_some_iff.1 h1).1; rw [h.len]; exact this), List.getElem?_eq_getElem _⟩
    rw [hb] at this
    simp only [Option.map_some, Option.some.injEq] at this
    have h3 := (Bool.or_eq_false_iff.1 this.symm)
    rcases (h.mem _).2 ⟨j, a, h1, by rw [hb, h3.1], rfl⟩ with hx | hx
    · have := List.any_eq_false.1 h3.2 _ hx
      simp at this
    · exact hx
end Go.Proofs.YtmdilnelogechaaDoor.IR
