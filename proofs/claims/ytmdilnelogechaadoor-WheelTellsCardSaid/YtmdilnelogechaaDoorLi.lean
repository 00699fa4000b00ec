/- This text of a proof shows: the law 'WheelTells'. -/
import Derived.Test.YtmdilnelogechaaDoorGg
import Derived.Test.YtmdilnelogechaaDoorLf
import Derived.Test.YtmdilnelogechaaDoorGk
set_option linter.unusedVariables false
set_option linter.unusedSimpArgs false
set_option linter.constructorNameAsVariable false
namespace Go.Proofs.YtmdilnelogechaaDoor.IR
open Go Go.Proofs.YtmdilnelogechaaDoor.Ev Go.Proofs.YtmdilnelogechaaDoor.Ev.Rb Go.Proofs.YtmdilnelogechaaDoor.Ev.Wh Go.Proofs.YtmdilnelogechaaDoor.Ext Go.Proofs.YtmdilnelogechaaDoorW.PrintWords
set_option linter.unusedSimpArgs false
set_option linter.unusedVariables false
set_option maxHeartbeats 4000000
attribute [local go_sem] skipV nc0 nc1 nc2 nc3 bne_self_eq_false decide_true decide_false IOp.step Opd.ev Env.get initEnv Val.cells? Val.one List.all_cons List.all_nil Bool.and_true Bool.and_self Bool.true_and bin ints eqv Val.kindNo lenNo_s lenNo_nils lenNo_sl lenNo_nilm lenNo_m lenOf_s lenOf_nils lenOf_sl lenOf_nilm unary partsOf padTo List.foldl_cons List.foldl_nil wr_nil wr_step wr_zero List.set_cons_zero List.set_cons_succ List.map_cons List.map_nil z1 z2 Nat.succ_ne_zero List.length_cons List.length_nil List.cons_append List.nil_append List.append_nil List.getElem?_cons_zero List.getElem?_cons_succ List.getElem?_nil Option.map_some Option.map_none Nat.zero_add Nat.add_zero List.drop_zero List.drop_succ_cons List.take_succ_cons List.take_zero List.take_nil and_self and_true true_and Nat.le_refl Bool.not_true Bool.not_false Option.getD_some window Val.slen bnd resV resL RV.val Bool.false_eq_true BEq.rfl Bool.true_beq Bool.false_beq beq_true beq_false mk_one ite_true ite_false eqc ceqs ceq NOp.step isK eq_self
attribute [local go_sem] gV_no
attribute [local go_sem] nat_toNat getC setC Nat.mul_one
attribute [local go_sem high] slV_one slV_no dw_all dw_all2 dw_all3
theorem LK.addK {A R N : Heap} {wid : Nat} {s : Ws} {K K2 : Jl} (h : LK A R wid s K) (hK2 : ∀ x ∈ K2, R.length ≤ x.1 ∧ (R ++ N)[x.1]? = some x.2) : LK A (R ++ N) wid s (K2 ++ K) := by
  obtain ⟨ids, W, g1, g2, g3, g4, g5⟩ := h
  refine ⟨ids, W, by rw [← List.append_assoc]; exact g1.push N, g2, g3, g4, fun y hy => ?_⟩
  rcases List.mem_append.1 hy with hy | hy
  · obtain ⟨k1, k2⟩ := hK2 y hy
    refine ⟨fun hi => ?_, k2⟩
    have := g1.lt hi
    simp at this; omega
  · refine ⟨(g5 y hy).1, ?_⟩
    rw [List.getElem?_append_left (List.getElem?_eq_some_iff.1 (g5 y hy).2).1]
    exact (g5 y hy).2
/-- The wheel, the document's wheel, all that is kept of it. -/
def TlS (R : Heap) (c : List Val) (S w room wid jr : Nat) (s : Ws) (T L : Tl) (D : List Int) (oL oD : Option (Nat × Nat)) (KL : Jl) (i : Nat) : Prop :=
  LK [.ro c] R wid s ((jr, .rw [.i .i64 (S : Nat), .i .u64 (w : Nat), .i .i64 (room : Nat), .i .u64 (s.c : Nat), slV oL L.length 3, slV oD D.length 1]) :: KL) ∧ (∀ x ∈ KL, x.1 ≠ jr) ∧ KLs oL L KL ∧ KDs oD D KL ∧ TT s T L ∧ s.due = D ∧ s.S = S ∧ s.w = w ∧ s.room = room ∧ s.wt + s.due.length ≤ i ∧ s.put ≤ i
def TlI (l : List Op3) (S w room : Nat) (o : GO) (k : Nat) (n : Nat) (ρ : Env) (H : Heap) : Prop :=
  ∃ (i : Nat) (R : Heap) (wid jr : Nat) (s : Ws) (T L : Tl) (D : List Int) (oL oD : Option (Nat × Nat)) (KL : Jl), i ≤ k ∧ n = k - i ∧ H = .ro (o3C l) :: R ∧ TlS R (o3C l) S w room wid jr s T L D oL oD KL i ∧
    Kp [(9, .p wid 0), (11, .p (jr + 1) 0), (72, gV o 0 k 3), (73, .i .i64 (k : Nat)), (74, .i .i64 (i : Nat))] ρ
def TlM (l : List Op3) (S w room : Nat) (o : GO) (k i : Nat) (ρ : Env) (H : Heap) : Prop :=
  ∃ (R : Heap) (wid jr : Nat) (s : Ws) (T L : Tl) (D : List Int) (oL oD : Option (Nat × Nat)) (KL : Jl), H = .ro (o3C l) :: R ∧ TlS R (o3C l) S w room wid jr s T L D oL oD KL (i + 1) ∧
    Kp [(9, .p wid 0), (11, .p (jr + 1) 0), (72, gV o 0 k 3), (73, .i .i64 (k : Nat)), (74, .i .i64 (i : Nat))] ρ
theorem WheelTells_sound (a0 : Int) (a1 : Int) (a2 : Int) (l3 : List (Int × Int × Int)) (sv3 : Val)
    (w0 : (Lit.int .i64 a0).wf = true) (w1 : (Lit.int .u64 a1).wf = true) (w2 : (Lit.int .i64 a2).wf = true) (s3 : SlArg sv3 0 l3.length 3) (m3 : l3.length ≤ maxLen) (e3 : ∀ x ∈ l3, (Lit.int .u8 x.1).wf = true ∧ (Lit.int .u64 x.2.1).wf = true ∧ (Lit.int .u64 x.2.2).wf = true) :
    SoundM Tryd.prog 1 5 [.i .i64 a0, .i .u64 a1, .i .i64 a2, sv3] [.ro (l3.flatMap fun x => [.i .u8 x.1, .i .u64 x.2.1, .i .u64 x.2.2])] (fun v _ => v = .b true) := by
  obtain ⟨o, ho, hn, rfl⟩ := slO s3
  have hml : l3.length ≤ 9223372036854775807 := Nat.le_trans m3 (by decide)
  have rl : ∀ x ∈ l3, 0 ≤ x.2.2 ∧ x.2.2 ≤ 18446744073709551615 := fun x hx => by
    have := (e3 x hx).2.2
    simpa [Lit.wf, IntKind.has, IntKind.min, IntKind.max, IntKind.bits, IntKind.signed] using this
  show SoundM _ _ _ _ [.ro (o3C l3)] _
  refine (sound_func Tryd.func5 c5 rfl (by simp) ?_)
  simp only [e5, s5]
  by_cases hbad : BadN a0 a1 a2
  · have hb1 : ((2 : Int) == 0) = false := rfl
    have hb2 : ((2 : Int) != 2) = false := rfl
    refine GG0 ?_
    (first | ((with_reducible first | apply RunP.call | apply Run.call | apply Run.call0); iterate 2 (· (simp only [go_sem, reduceIte, Nat.reduceEqDiff]; (try with_reducible exact rfl)))) | ((with_reducible first | apply Run.callY | apply RunP.callY); iterate 3 (· (simp only [go_sem, reduceIte, Nat.reduceEqDiff]; (try with_reducible exact rfl)))))
    refine (wnew_bad a0 a1 a2 hbad _).mono ?_
    rintro v H' ⟨rfl, rfl⟩
    (first | refine And.intro rfl ?_ | refine And.intro trivial ?_ | skip)
    refine GG0 ?_
    (first | ((with_reducible first | apply RunP.call | apply Run.call | apply Run.call0); iterate 2 (· (simp only [go_sem, reduceIte, Nat.reduceEqDiff]; (try with_reducible exact rfl)))) | ((with_reducible first | apply Run.callY | apply RunP.callY); iterate 3 (· (simp only [go_sem, reduceIte, Nat.reduceEqDiff]; (try with_reducible exact rfl)))))
    refine (rnew_bad a0 a1 a2 hbad _).mono ?_
    rintro v H' ⟨rfl, N, rfl⟩
    simp only [List.cons_append, List.nil_append]
    (have g0 := hb1; have g1 := hb2; refine GG2 ?_; clear g0 g1)
    (first | ((with_reducible first | apply RunP.call | apply Run.call | apply Run.call0); iterate 2 (· (simp only [go_sem, reduceIte, Nat.reduceEqDiff]; (try with_reducible exact rfl)))) | ((with_reducible first | apply Run.callY | apply RunP.callY); iterate 3 (· (simp only [go_sem, reduceIte, Nat.reduceEqDiff]; (try with_reducible exact rfl)))))
    refine (awake_sound _).mono ?_
    rintro v H' ⟨rfl, rfl⟩
    refine GG0 ?_
    rfl
  · unfold BadN at hbad
    obtain ⟨S, rfl⟩ : ∃ S : Nat, a0 = (S : Nat) := ⟨a0.toNat, by omega⟩
    obtain ⟨w, rfl⟩ : ∃ w : Nat, a1 = (w : Nat) := ⟨a1.toNat, by omega⟩
    obtain ⟨room, rfl⟩ : ∃ room : Nat, a2 = (room : Nat) := ⟨a2.toNat, by omega⟩
    have hS1 : 2 ≤ S := by omega
    have hS2 : S ≤ 4096 := by omega
    have hw1 : 1 ≤ w := by omega
    have hw2 : w ≤ 1099511627776 := by omega
    have hr1 : 1 ≤ room := by omega
    have hr2 : room ≤ 65536 := by omega
    have hb1 : ((0 : Int) == 0) = true := rfl
    refine GG0 ?_
    (first | ((with_reducible first | apply RunP.call | apply Run.call | apply Run.call0); iterate 2 (· (simp only [go_sem, reduceIte, Nat.reduceEqDiff]; (try with_reducible exact rfl)))) | ((with_reducible first | apply Run.callY | apply RunP.callY); iterate 3 (· (simp only [go_sem, reduceIte, Nat.reduceEqDiff]; (try with_reducible exact rfl)))))
    refine (LW.new _ S w room hS1 hS2 hw1 hw2 hr1 hr2).mono ?_
    rintro v H' ⟨R, wid, rfl, rfl, hLW⟩
    have hLK := LK.of hLW
    simp only [List.cons_append, List.nil_append] at hLK ⊢
    refine GG0 ?_
    (first | ((with_reducible first | apply RunP.call | apply Run.call | apply Run.call0); iterate 2 (· (simp only [go_sem, reduceIte, Nat.reduceEqDiff]; (try with_reducible exact rfl)))) | ((with_reducible first | apply Run.callY | apply RunP.callY); iterate 3 (· (simp only [go_sem, reduceIte, Nat.reduceEqDiff]; (try with_reducible exact rfl)))))
    refine (rnew_ok S w room hS1 hS2 hw1 hw2 hr1 hr2 _).mono ?_
    rintro v H' ⟨rfl, N, rfl⟩
    have hLK2 := hLK.push N
    simp only [List.cons_append, List.nil_append, dwV] at hLK2 ⊢
    generalize R ++ N = R2 at hLK2
    clear hLK hLW
    by_cases hbig : 70 < S ∨ 60 < l3.length
    · by_cases h70 : 70 < S
      · have d1 : ((S : Nat) : Int) > 70 := by omega
        (have g0 := hb1; have g1 := gV_len hn; have g2 := decide_t d1; refine GG3 ?_; clear g0 g1 g2)
        (first | ((with_reducible first | apply RunP.call | apply Run.call | apply Run.call0); iterate 2 (· (simp only [go_sem, reduceIte, Nat.reduceEqDiff]; (try with_reducible exact rfl)))) | ((with_reducible first | apply Run.callY | apply RunP.callY); iterate 3 (· (simp only [go_sem, reduceIte, Nat.reduceEqDiff]; (try with_reducible exact rfl)))))
        refine (awake_sound _).mono ?_
        rintro v H' ⟨rfl, rfl⟩
        refine GG0 ?_
        rfl
      · have d1 : ¬ ((S : Nat) : Int) > 70 := by omega
        have d2 : ((l3.length : Nat) : Int) > 60 := by omega
        (have g0 := hb1; have g1 := gV_len hn; have g2 := decide_f d1; have g3 := decide_t d2; refine GG4 ?_; clear g0 g1 g2 g3)
        (first | ((with_reducible first | apply RunP.call | apply Run.call | apply Run.call0); iterate 2 (· (simp only [go_sem, reduceIte, Nat.reduceEqDiff]; (try with_reducible exact rfl)))) | ((with_reducible first | apply Run.callY | apply RunP.callY); iterate 3 (· (simp only [go_sem, reduceIte, Nat.reduceEqDiff]; (try with_reducible exact rfl)))))
        refine (awake_sound _).mono ?_
        rintro v H' ⟨rfl, rfl⟩
        refine GG0 ?_
        rfl
    · have d1 : ¬ ((S : Nat) : Int) > 70 := by omega
      have d2 : ¬ ((l3.length : Nat) : Int) > 60 := by omega
      (have g0 := hb1; have g1 := gV_len hn; have g2 := decide_f d1; have g3 := decide_f d2; refine GG4 ?_; clear g0 g1 g2 g3)
      refine ei_loop (TlI l3 S w room o l3.length) (n := l3.length) ?_ ?_
      · refine ⟨0, _, wid, R2.length, _, [], [], [], none, none, [], by omega, rfl, rfl, ⟨hLK2.pushK _, by simp, .inl ⟨rfl, rfl⟩, .inl ⟨rfl, rfl⟩, TT.init hS1, rfl, rfl, rfl, rfl, by simp [Wd.init], Nat.le_refl _⟩, ?_⟩
        simp [Kp, Env.get]
      · clear hLK2 R2 N R wid
        rintro n ρ H ⟨i, R, wid, jr, s, T, L, D, oL, oD, KL, hi, rfl, rfl, ⟨hLK, hne, hKL, hKD, hTT, hsD, hsS, hsw, hsr, hle, hsp⟩, hρ⟩
        refine ei_few _ hρ ?_
        clear hρ
        by_cases hik : i = l3.length
        · subst hik
          have hz : ¬ (((l3.length : Nat) : Int) < ((l3.length : Nat) : Int)) := by omega
          (have g0 := decide_f hz; refine GG1 ?_; clear g0)
          (first | ((with_reducible first | apply RunP.call | apply Run.call | apply Run.call0); iterate 2 (· (simp only [go_sem, reduceIte, Nat.reduceEqDiff]; (try with_reducible exact rfl)))) | ((with_reducible first | apply Run.callY | apply RunP.callY); iterate 3 (· (simp only [go_sem, reduceIte, Nat.reduceEqDiff]; (try with_reducible exact rfl)))))
          refine (awake_sound _).mono ?_
          rintro v H' ⟨rfl, rfl⟩
          refine GG0 ?_
          rfl
        · have hz : (((i : Nat) : Int) < ((l3.length : Nat) : Int)) := by omega
          obtain ⟨x, hx⟩ : ∃ x, l3[i]? = some x := ⟨l3[i], List.getElem?_eq_getElem (by omega)⟩
          rcases x with ⟨x1, x2, x3⟩
          obtain ⟨hx1, hx2⟩ := o3_win hx
          obtain ⟨t, rfl⟩ : ∃ t : Nat, x3 = (t : Nat) := ⟨x3.toNat, by have := (rl _ (List.mem_of_getElem? hx)).1; simp at this; omega⟩
          have ht2 : t ≤ 18446744073709551615 := by have := (rl _ (List.mem_of_getElem? hx)).2; simp at this; omega
          rcases ho with rfl | rfl
          · exact absurd (hn rfl) (by omega)
          simp only [gV_new, o3] at hx1 ⊢
          (have g0 := decide_t hz; have g1 := hx1; refine GG2 ?_; clear g0 g1)
          have hLKb := hLK.pushK (.rw [.i .u8 x1, .i .u64 x2, .i .u64 (t : Nat)])
          have hSp : 0 < s.S := by omega
          have hok := hLK.ok
          have hLl : L.length = s.wt := by rw [hTT.perm.length_eq, hTT.wt.len]
          have hDl : D.length = s.due.length := by rw [hsD]
          have hjrlt : jr < R.length := (List.getElem?_eq_some_iff.1 (hLK.get (jr, _) List.mem_cons_self)).1
          refine ei_midB (M := TlM l3 S w room gNew l3.length i) ?_ ?_
          · by_cases h1 : x1 = 1
            · subst h1
              have hb : ((1 : Int) == 1) = true := rfl
              (have g0 := hb; refine GG1 ?_; clear g0)
              (first | ((with_reducible first | apply RunP.call | apply Run.call | apply Run.call0); iterate 2 (· (simp only [go_sem, reduceIte, Nat.reduceEqDiff]; (try with_reducible exact rfl)))) | ((with_reducible first | apply Run.callY | apply RunP.callY); iterate 3 (· (simp only [go_sem, reduceIte, Nat.reduceEqDiff]; (try with_reducible exact rfl)))))
              refine (hLKb.call (fun W hW => put_c s [] W hW x2 t ht2 (by have := hTT.wt.slots hSp (q := stP s (slotN t s.w : Nat)) (Nat.mod_lt _ hSp); omega) (by omega)) rfl (by rintro v W' (⟨_, _, h⟩ | ⟨_, _, h⟩) <;> exact ⟨_, _, h⟩)).mono ?_
              rintro v H' ⟨R1, v0, W1, ι, rfl, hq, rfl, hback⟩
              simp only [List.cons_append, List.nil_append]
              rcases hq with ⟨hfull, rfl, hWH⟩ | ⟨hfree, rfl, hWH⟩
              · have hL1 := hback _ hWH
                have hr := hL1.get (jr, _) (by exact List.mem_cons_of_mem _ List.mem_cons_self)
                have gop := hL1.get (R.length, _) List.mem_cons_self
                simp only [Val.ren] at hr gop ⊢
                (have g0 := hr; have g1 := gop; refine GG2 ?_; clear g0 g1)
                (first | ((with_reducible first | apply RunP.call | apply Run.call | apply Run.call0); iterate 2 (· (simp only [go_sem, reduceIte, Nat.reduceEqDiff]; (try with_reducible exact rfl)))) | ((with_reducible first | apply Run.callY | apply RunP.callY); iterate 3 (· (simp only [go_sem, reduceIte, Nat.reduceEqDiff]; (try with_reducible exact rfl)))))
                refine (rput_full S w room s.c oL oD L.length D.length (hKL.sl hL1 (fun x hx => by simp [hx])).no (hKD.sl hL1 (fun x hx => by simp [hx])).no (by omega) (by omega) x2 t _).mono ?_
                rintro v H' ⟨rfl, N, rfl⟩
                have hL2 := hL1.push N
                simp only [List.cons_append, List.nil_append, dwV] at hL2 ⊢
                generalize R1 ++ N = R2 at hL2
                have hL3 := (hL2.less (K' := (jr, .rw [.i .i64 (S : Nat), .i .u64 (w : Nat), .i .i64 (room : Nat), .i .u64 (s.c : Nat), slV oL L.length 3, slV oD D.length 1]) :: KL) (fun x hx => List.mem_cons_of_mem _ hx)).push [.rw [.i .i64 (S : Nat), .i .u64 (w : Nat), .i .i64 (room : Nat), .i .u64 (s.c : Nat), slV oL L.length 3, slV oD D.length 1]]
                have hr2 := hL3.get (jr, _) List.mem_cons_self
                have hL4 := hL3.set hne (.rw [.i .i64 (S : Nat), .i .u64 (w : Nat), .i .i64 (room : Nat), .i .u64 (s.c : Nat), slV oL L.length 3, slV oD D.length 1])
                have h44 : ((4 : Int) != 4) = false := rfl
                simp only at hr2
                (have g0 := hr2; have g1 := h44; refine GG2 ?_; clear g0 g1)
                refine ⟨_, wid, jr, s, T, L, D, oL, oD, KL, rfl, ⟨hL4, hne, hKL, hKD, hTT, hsD, hsS, hsw, hsr, by omega, by omega⟩, ?_⟩
                simp [Kp, Env.get, gV_new]
              · have hL1 := hback _ hWH
                have hr := hL1.get (jr, _) (by exact List.mem_cons_of_mem _ List.mem_cons_self)
                have gop := hL1.get (R.length, _) List.mem_cons_self
                simp only [Val.ren] at hr gop ⊢
                (have g0 := hr; have g1 := gop; refine GG2 ?_; clear g0 g1)
                (first | ((with_reducible first | apply RunP.call | apply Run.call | apply Run.call0); iterate 2 (· (simp only [go_sem, reduceIte, Nat.reduceEqDiff]; (try with_reducible exact rfl)))) | ((with_reducible first | apply Run.callY | apply RunP.callY); iterate 3 (· (simp only [go_sem, reduceIte, Nat.reduceEqDiff]; (try with_reducible exact rfl)))))
                refine (rput_ok S w room s.c oL oD L D.length _ (hKL.sl hL1 (fun x hx => by simp [hx])) (hKD.sl hL1 (fun x hx => by simp [hx])).no (by omega) (by omega) (by omega) (by omega) (by omega) (by omega) hok.c x2 (s.put : Nat) t ht2).mono ?_
                rintro v H' ⟨j, N, rfl, rfl, hjge, hjN⟩
                obtain ⟨j', rfl⟩ : ∃ j', j = j' + 1 := ⟨j - 1, by simp at hjge; omega⟩
                have hj' : R1.length ≤ j' := by simp at hjge; omega
                have hL2 := hL1.add (N := N) hj' hjN
                have hjr1 : jr < R1.length := (List.getElem?_eq_some_iff.1 hr).1
                have hjne : j' ≠ jr := by omega
                simp only [List.cons_append, List.nil_append, dwV] at hL2 ⊢
                generalize R1 ++ N = R2 at hL2
                obtain ⟨L2, hL2e⟩ : ∃ L2, L2 = L ++ [((((slotN t w : Nat) : Int), ((s.put : Nat) : Int), x2), stC S s.c (slotN t w : Nat))] := ⟨_, rfl⟩
                have hT2 := hTT.put (v := x2) hok ht2 hfree
                have hLn : L.length + 1 = L2.length := by rw [hL2e]; simp
                rw [hsS, hsw, ← hL2e] at hT2
                rw [← hL2e] at hL2
                rw [hLn]
                have hL3 := (hL2.less (K' := (jr, .rw [.i .i64 (S : Nat), .i .u64 (w : Nat), .i .i64 (room : Nat), .i .u64 (s.c : Nat), slV oL L.length 3, slV oD D.length 1]) :: (j', .rw (lC L2)) :: KL) (fun x hx => by simp only [List.mem_cons] at hx ⊢; rcases hx with rfl | rfl | hx <;> simp [*])).push [.rw [.i .i64 (S : Nat), .i .u64 (w : Nat), .i .i64 (room : Nat), .i .u64 (s.c : Nat), slV (some (j' + 1, 0)) L2.length 3, slV oD D.length 1]]
                have hr2 := hL3.get (jr, _) List.mem_cons_self
                have hne2 : ∀ x ∈ (j', AObj.rw (lC L2)) :: KL, x.1 ≠ jr := fun x hx => by
                  rcases List.mem_cons.1 hx with rfl | hx
                  · exact hjne
                  · exact hne x hx
                have hL4 := hL3.set hne2 (.rw [.i .i64 (S : Nat), .i .u64 (w : Nat), .i .i64 (room : Nat), .i .u64 (s.c : Nat), slV (some (j' + 1, 0)) L2.length 3, slV oD D.length 1])
                have h00 : ((0 : Int) != 0) = false := rfl
                simp only at hr2
                (have g0 := hr2; have g1 := h00; refine GG2 ?_; clear g0 g1)
                refine ⟨_, wid, jr, put1 s x2 t, _, L2, D, some (j' + 1, 0), oD, (j', .rw (lC L2)) :: KL, rfl, ⟨hL4, hne2, .inr ⟨j', rfl, List.mem_cons_self⟩, hKD.up (fun x hx => List.mem_cons_of_mem _ hx), hT2, hsD, hsS, hsw, hsr, ?_, ?_⟩, ?_⟩
                · show s.wt + 1 + s.due.length ≤ i + 1; omega
                · show s.put + 1 ≤ i + 1; omega
                · simp [Kp, Env.get, gV_new]
            · have hb1 : (x1 == 1) = false := by simpa using h1
              by_cases h2 : x1 = 2
              · subst h2
                have hb : ((2 : Int) == 1) = false := rfl
                have hb' : ((2 : Int) == 2) = true := rfl
                (have g0 := hb; have g1 := hb'; refine GG2 ?_; clear g0 g1)
                (first | ((with_reducible first | apply RunP.call | apply Run.call | apply Run.call0); iterate 2 (· (simp only [go_sem, reduceIte, Nat.reduceEqDiff]; (try with_reducible exact rfl)))) | ((with_reducible first | apply Run.callY | apply RunP.callY); iterate 3 (· (simp only [go_sem, reduceIte, Nat.reduceEqDiff]; (try with_reducible exact rfl)))))
                refine (hLKb.call (fun W hW => adv_c s [] W hW T hTT.wt t ht2 (by omega)) rfl (by rintro v W' ⟨l, s', _, _, _, h, _⟩; exact ⟨_, _, h⟩)).mono ?_
                rintro v H' ⟨R1, v0, W1, ι, rfl, ⟨l, s1, hp, hso, rfl, hWH, hA⟩, rfl, hback⟩
                rw [hsw] at hp hA ⊢
                have hL1 := hback _ hWH
                have hr := hL1.get (jr, _) (by exact List.mem_cons_of_mem _ List.mem_cons_self)
                have gop := hL1.get (R.length, _) List.mem_cons_self
                simp only [Val.ren, List.cons_append, List.nil_append] at hr gop ⊢
                (have g0 := hr; have g1 := gop; refine GG2 ?_; clear g0 g1)
                (first | ((with_reducible first | apply RunP.call | apply Run.call | apply Run.call0); iterate 2 (· (simp only [go_sem, reduceIte, Nat.reduceEqDiff]; (try with_reducible exact rfl)))) | ((with_reducible first | apply Run.callY | apply RunP.callY); iterate 3 (· (simp only [go_sem, reduceIte, Nat.reduceEqDiff]; (try with_reducible exact rfl)))))
                refine (radv_ok S w room s.c oL oD L D _ (hKL.sl hL1 (fun x hx => by simp [hx])) (hKD.sl hL1 (fun x hx => by simp [hx])) (by omega) (by omega) (by omega) (by omega) (by omega) hok.c t ht2 (fun y hy => hTT.wt.ty y (hTT.perm.subset hy)) hTT.ord _ rfl).mono ?_
                rintro v H' ⟨dl, L1, j, j2, N, rfl, rfl, hj1, hj2, hjN, hj2N, hR, hlt⟩
                obtain ⟨hdl, hT2⟩ := hTT.adv (Nat.le_max_left _ _) hp hso hA hR hlt
                obtain ⟨f1, f2, f3, f4, f5⟩ := hA.same
                have f6 := hA.wt
                have f7 := hA.due
                rw [← hdl] at f6 f7 ⊢
                obtain ⟨j', rfl⟩ : ∃ j', j = j' + 1 := ⟨j - 1, by simp at hj1; omega⟩
                obtain ⟨j2', rfl⟩ : ∃ j', j2 = j' + 1 := ⟨j2 - 1, by simp at hj2; omega⟩
                have hj1' : R1.length ≤ j' := by simp at hj1; omega
                have hj2' : R1.length ≤ j2' := by simp at hj2; omega
                have hjr1 : jr < R1.length := (List.getElem?_eq_some_iff.1 hr).1
                rw [hsS] at hT2
                obtain ⟨L2, hL2e⟩ : ∃ L2, L2 = L1.map (rup S (max s.c (t / w))) := ⟨_, rfl⟩
                obtain ⟨D2, hD2e⟩ : ∃ D2, D2 = D ++ vs dl := ⟨_, rfl⟩
                have hLn : L1.length = L2.length := by rw [hL2e]; simp
                have hDn : D.length + dl.length = D2.length := by rw [hD2e]; simp [vs]
                have hs1D : s1.due = D2 := by rw [f7, hsD, hD2e]
                have hsum : s1.wt + s1.due.length ≤ i + 1 := by rw [f7, List.length_append]; simp only [vs, List.length_map]; omega
                rw [← hL2e] at hT2 hjN
                rw [← hD2e] at hj2N
                rw [hLn, hDn]
                have hL2 := hL1.addK (N := N) (K2 := [(j', .rw (lC L2)), (j2', .rw (n64 D2))]) (fun x hx => by
                  simp only [List.mem_cons, List.not_mem_nil, or_false] at hx
                  rcases hx with rfl | rfl
                  · exact ⟨hj1', hjN⟩
                  · exact ⟨hj2', hj2N⟩)
                simp only [List.cons_append, List.nil_append, dwV] at hL2 ⊢
                generalize R1 ++ N = R2 at hL2
                obtain ⟨c2, hc2⟩ : ∃ c2, c2 = max s.c (t / w) := ⟨_, rfl⟩
                rw [← hc2] at f3 hT2 ⊢
                have hL3 := (hL2.less (K' := (jr, .rw [.i .i64 (S : Nat), .i .u64 (w : Nat), .i .i64 (room : Nat), .i .u64 (s.c : Nat), slV oL L.length 3, slV oD D.length 1]) :: (j', .rw (lC L2)) :: (j2', .rw (n64 D2)) :: KL) (fun x hx => by simp only [List.mem_cons] at hx ⊢; rcases hx with rfl | rfl | rfl | hx <;> simp [*])).push [.rw [.i .i64 (S : Nat), .i .u64 (w : Nat), .i .i64 (room : Nat), .i .u64 (c2 : Nat), slV (some (j' + 1, 0)) L2.length 3, slV (some (j2' + 1, 0)) D2.length 1]]
                have hr2 := hL3.get (jr, _) List.mem_cons_self
                have hne2 : ∀ x ∈ (j', AObj.rw (lC L2)) :: (j2', .rw (n64 D2)) :: KL, x.1 ≠ jr := fun x hx => by
                  simp only [List.mem_cons] at hx
                  rcases hx with rfl | rfl | hx
                  · show j' ≠ jr; omega
                  · show j2' ≠ jr; omega
                  · exact hne x hx
                have hL4 := hL3.set hne2 (.rw [.i .i64 (S : Nat), .i .u64 (w : Nat), .i .i64 (room : Nat), .i .u64 (c2 : Nat), slV (some (j' + 1, 0)) L2.length 3, slV (some (j2' + 1, 0)) D2.length 1])
                have hbb : (((dl.length : Nat) : Int) != ((dl.length : Nat) : Int)) = false := bne_self_eq_false _
                simp only at hr2
                (have g0 := hr2; have g1 := hbb; refine GG2 ?_; clear g0 g1)
                rw [← f3] at hL4
                refine ⟨_, wid, jr, s1, _, L2, D2, some (j' + 1, 0), some (j2' + 1, 0), (j', .rw (lC L2)) :: (j2', .rw (n64 D2)) :: KL, by rw [← f3], ⟨hL4, hne2, .inr ⟨j', rfl, List.mem_cons_self⟩, .inr ⟨j2', [], rfl, by simp⟩, hT2, hs1D, by omega, by omega, by omega, hsum, by omega⟩, ?_⟩
                simp [Kp, Env.get, gV_new]
              · have hb2 : (x1 == 2) = false := by simpa using h2
                by_cases h3 : x1 = 3
                · subst h3
                  have hb : ((3 : Int) == 1) = false := rfl
                  have hb' : ((3 : Int) == 2) = false := rfl
                  have hb'' : ((3 : Int) == 3) = true := rfl
                  (have g0 := hb; have g1 := hb'; have g2 := hb''; refine GG3 ?_; clear g0 g1 g2)
                  (first | ((with_reducible first | apply RunP.call | apply Run.call | apply Run.call0); iterate 2 (· (simp only [go_sem, reduceIte, Nat.reduceEqDiff]; (try with_reducible exact rfl)))) | ((with_reducible first | apply Run.callY | apply RunP.callY); iterate 3 (· (simp only [go_sem, reduceIte, Nat.reduceEqDiff]; (try with_reducible exact rfl)))))
                  refine (hLKb.call (fun W hW => take_c s [] W hW) rfl (by rintro v W' (⟨_, _, h⟩ | ⟨_, _, _, _, h⟩) <;> exact ⟨_, _, h⟩)).mono ?_
                  rintro v H' ⟨R1, v0, W1, ι, rfl, hq, rfl, hback⟩
                  simp only [List.cons_append, List.nil_append]
                  rcases hq with ⟨hd, rfl, hWH⟩ | ⟨y, l, hd, rfl, hWH⟩
                  · have hL1 := hback _ hWH
                    obtain rfl : D = [] := by rw [← hsD]; exact hd
                    have hr := hL1.get (jr, _) (by exact List.mem_cons_of_mem _ List.mem_cons_self)
                    simp only [Val.ren, renL, List.length_nil] at hr ⊢
                    (have g0 := hr; refine GG1 ?_; clear g0)
                    (first | ((with_reducible first | apply RunP.call | apply Run.call | apply Run.call0); iterate 2 (· (simp only [go_sem, reduceIte, Nat.reduceEqDiff]; (try with_reducible exact rfl)))) | ((with_reducible first | apply Run.callY | apply RunP.callY); iterate 3 (· (simp only [go_sem, reduceIte, Nat.reduceEqDiff]; (try with_reducible exact rfl)))))
                    refine (rtake_none S w room s.c oL oD L.length _).mono ?_
                    rintro v H' ⟨rfl, N, rfl⟩
                    have hL2 := hL1.push N
                    simp only [List.cons_append, List.nil_append, List.length_nil, dwV] at hL2 ⊢
                    generalize R1 ++ N = R2 at hL2
                    have hL3 := (hL2.less (K' := (jr, .rw [.i .i64 (S : Nat), .i .u64 (w : Nat), .i .i64 (room : Nat), .i .u64 (s.c : Nat), slV oL L.length 3, slV oD 0 1]) :: KL) (fun x hx => List.mem_cons_of_mem _ hx)).push [.rw [.i .i64 (S : Nat), .i .u64 (w : Nat), .i .i64 (room : Nat), .i .u64 (s.c : Nat), slV oL L.length 3, slV oD 0 1]]
                    have hr2 := hL3.get (jr, _) List.mem_cons_self
                    have hL4 := hL3.set hne (.rw [.i .i64 (S : Nat), .i .u64 (w : Nat), .i .i64 (room : Nat), .i .u64 (s.c : Nat), slV oL L.length 3, slV oD 0 1])
                    have h00 : ((0 : Int) != 0) = false := rfl
                    simp only at hr2
                    (have g0 := hr2; have g1 := h00; refine GG2 ?_; clear g0 g1)
                    refine ⟨_, wid, jr, s, T, L, [], oL, oD, KL, rfl, ⟨hL4, hne, hKL, hKD, hTT, hsD, hsS, hsw, hsr, by omega, by omega⟩, ?_⟩
                    simp [Kp, Env.get, gV_new]
                  · have hL1 := hback _ hWH
                    obtain rfl : D = y :: l := by rw [← hsD]; exact hd
                    have hr := hL1.get (jr, _) (by exact List.mem_cons_of_mem _ List.mem_cons_self)
                    have hks := hKD.sl hL1 (fun x hx => by simp [hx])
                    rcases hKD with ⟨_, h⟩ | ⟨xd, ad, rfl, hmem⟩
                    · cases h
                    have hgd := hL1.get _ (List.mem_cons_of_mem _ (List.mem_cons_of_mem _ hmem))
                    have hdl : l.length ≤ 1000000 := by simp only [List.length_cons] at hDl; omega
                    simp only [Val.ren, renL, List.length_cons] at hr ⊢
                    (have g0 := hr; refine GG1 ?_; clear g0)
                    (first | ((with_reducible first | apply RunP.call | apply Run.call | apply Run.call0); iterate 2 (· (simp only [go_sem, reduceIte, Nat.reduceEqDiff]; (try with_reducible exact rfl)))) | ((with_reducible first | apply Run.callY | apply RunP.callY); iterate 3 (· (simp only [go_sem, reduceIte, Nat.reduceEqDiff]; (try with_reducible exact rfl)))))
                    refine (rtake_some S w room s.c oL L.length (xd + 1) ad y l _ hgd hdl).mono ?_
                    rintro v H' ⟨rfl, N, rfl⟩
                    have hL2 := hL1.push N
                    simp only [List.cons_append, List.nil_append, List.length_cons, dwV] at hL2 ⊢
                    generalize R1 ++ N = R2 at hL2
                    have hL3 := (hL2.less (K' := (jr, .rw [.i .i64 (S : Nat), .i .u64 (w : Nat), .i .i64 (room : Nat), .i .u64 (s.c : Nat), slV oL L.length 3, slV (some (xd + 1, ad.length)) (l.length + 1) 1]) :: KL) (fun x hx => List.mem_cons_of_mem _ hx)).push [.rw [.i .i64 (S : Nat), .i .u64 (w : Nat), .i .i64 (room : Nat), .i .u64 (s.c : Nat), slV oL L.length 3, slV (some (xd + 1, ad.length + 1)) l.length 1]]
                    have hr2 := hL3.get (jr, _) List.mem_cons_self
                    have hL4 := hL3.set hne (.rw [.i .i64 (S : Nat), .i .u64 (w : Nat), .i .i64 (room : Nat), .i .u64 (s.c : Nat), slV oL L.length 3, slV (some (xd + 1, ad.length + 1)) l.length 1])
                    have hyy : (y != y) = false := bne_self_eq_false _
                    have hdl2 := congrArg List.length hd
                    simp only [List.length_cons] at hdl2
                    simp only at hr2
                    (have g0 := hr2; have g1 := hyy; refine GG2 ?_; clear g0 g1)
                    refine ⟨_, wid, jr, { s with due := l }, T, L, l, oL, some (xd + 1, ad.length + 1), KL, rfl, ⟨hL4, hne, hKL, .inr ⟨xd, ad ++ [.i .u64 y], by simp, by rw [List.append_assoc]; exact hmem⟩, hTT.less (by omega), rfl, hsS, hsw, hsr, ?_, ?_⟩, ?_⟩
                    · show s.wt + l.length ≤ i + 1; omega
                    · show s.put ≤ i + 1; omega
                    · simp [Kp, Env.get, gV_new]
                · have hb3 : (x1 == 3) = false := by simpa using h3
                  (have g0 := hb1; have g1 := hb2; have g2 := hb3; refine GG3 ?_; clear g0 g1 g2)
                  refine ⟨_, wid, jr, s, T, L, D, oL, oD, KL, rfl, ⟨hLK.push _, hne, hKL, hKD, hTT, hsD, hsS, hsw, hsr, by omega, by omega⟩, ?_⟩
                  simp [Kp, Env.get, gV_new]
          · clear hLK hLKb hne hKL hKD hTT hsD hsS hsw hsr hle hsp hok hSp hLl hDl hjrlt R wid jr s T L D oL oD KL
            rintro ρ H ⟨R, wid, jr, s, T, L, D, oL, oD, KL, rfl, ⟨hLK, hne, hKL, hKD, hTT, hsD, hsS, hsw, hsr, hle, hsp⟩, hρ⟩
            refine ei_few _ hρ ?_
            clear hρ
            have hSp : 0 < s.S := by omega
            have hok := hLK.ok
            have hLl : L.length = s.wt := by rw [hTT.perm.length_eq, hTT.wt.len]
            have hDl : s.due.length = D.length := by rw [hsD]
            simp only [gV_new]
            refine GG0 ?_
            (first | ((with_reducible first | apply RunP.call | apply Run.call | apply Run.call0); iterate 2 (· (simp only [go_sem, reduceIte, Nat.reduceEqDiff]; (try with_reducible exact rfl)))) | ((with_reducible first | apply Run.callY | apply RunP.callY); iterate 3 (· (simp only [go_sem, reduceIte, Nat.reduceEqDiff]; (try with_reducible exact rfl)))))
            refine (hLK.call (fun W hW => next_w s [] W hW T hTT.wt) rfl hq1).mono ?_
            rintro v H' ⟨R1, v0, W1, ι1, rfl, ⟨hnx, hW1⟩, rfl, hback⟩
            have hL1 := hback _ hW1
            have hr := hL1.get (jr, _) List.mem_cons_self
            have hLS := hKL.sl hL1 (fun x hx => by simp [hx])
            have hDS := hKD.sl hL1 (fun x hx => by simp [hx])
            have hDn := slV_len hDS.no 1
            have hLn := slV_len hLS.no 3
            simp only [List.cons_append, List.nil_append] at hr ⊢
            have hhi : ∀ y ∈ L, s.c ≤ y.2 ∧ y.2 < s.c + S ∧ y.2 ≤ 18446744073709551615 := fun y hy => by
              have h1 := hTT.wt.rt.lo y (hTT.perm.subset hy)
              have h2 := hTT.wt.rt.hi y (hTT.perm.subset hy)
              unfold hiC satN at h2
              omega
            have key : ∃ (a : Int) (b : Bool), v0.ren ι1 = .tup [.i .u64 a, .b b] ∧ SoundCall Tryd.prog 25 [.agg (dwV S w room s.c (slV oL L.length 3) (slV oD D.length 1))] (.ro (o3C l3) :: R1) (fun v H' => v = .tup [.i .u64 a, .b b] ∧ ∃ N, H' = (.ro (o3C l3) :: R1) ++ N) := by
              rcases hnx with ⟨hw0, rfl⟩ | ⟨m, hw0, hm1, hm2, rfl⟩
              · refine ⟨0, false, rfl, ?_⟩
                have h0 : L.length = 0 := by omega
                rw [h0]
                exact rnext_none S w room s.c oL oD D.length _
              · refine ⟨_, true, rfl, ?_⟩
                have hLn0 : L ≠ [] := fun h => by rw [h] at hLl; simp at hLl; omega
                rcases hLS with ⟨_, h⟩ | ⟨x, rfl, hg⟩
                · exact absurd h hLn0
                · refine (rnext_some S w room s.c L x oD D.length _ hg hLn0 (by omega) (by omega) (by omega) (fun y hy => (hhi y hy).2.2)).mono ?_
                  rintro v H' ⟨⟨m2, h1, h2, rfl⟩, hN⟩
                  rw [hTT.next hm1 hm2 h1 h2, hsw]
                  exact ⟨rfl, hN⟩
            obtain ⟨a, b, hv, hrn⟩ := key
            rw [hv]
            clear hv hnx hback hW1 hLK hLS hDS
            (have g0 := hr; refine GG1 ?_; clear g0)
            (first | ((with_reducible first | apply RunP.call | apply Run.call | apply Run.call0); iterate 2 (· (simp only [go_sem, reduceIte, Nat.reduceEqDiff]; (try with_reducible exact rfl)))) | ((with_reducible first | apply Run.callY | apply RunP.callY); iterate 3 (· (simp only [go_sem, reduceIte, Nat.reduceEqDiff]; (try with_reducible exact rfl)))))
            refine hrn.mono ?_
            rintro v H' ⟨rfl, N, rfl⟩
            have hL2 := hL1.push N
            clear hL1 hr hrn
            simp only [List.cons_append, List.nil_append] at hL2 ⊢
            generalize R1 ++ N = R2 at hL2
            have hr := hL2.get (jr, _) List.mem_cons_self
            simp only at hr
            refine GN0 ?_
            refine ei_dregD ?_
            (have g0 := hr; have g1 := hDn; have g2 := hLn; refine GD3 ?_; clear g0 g1 g2)
            refine GY ?_
            refine (hL2.call due_w rfl hq1).mono ?_
            rintro v H' ⟨R3, v0, W1, ι1, rfl, ⟨rfl, hW1⟩, rfl, hback⟩
            have hL3 := hback _ hW1
            clear hback hW1 hr hL2
            have hr := hL3.get (jr, _) List.mem_cons_self
            simp only [Val.ren, List.cons_append, List.nil_append, hDl] at hr ⊢
            refine ⟨?_, ?_⟩
            · (have g0 := hr; have g1 := hDn; have g2 := hLn; exact GR3)
            (have g0 := hr; have g1 := hDn; have g2 := hLn; refine GD3 ?_; clear g0 g1 g2)
            refine GY ?_
            refine (hL3.call waits_w rfl hq1).mono ?_
            rintro v H' ⟨R4, v0, W1, ι1, rfl, ⟨rfl, hW1⟩, rfl, hback⟩
            have hL4 := hback _ hW1
            clear hback hW1 hr hL3
            have hr := hL4.get (jr, _) List.mem_cons_self
            simp only [Val.ren, List.cons_append, List.nil_append, ← hLl] at hr ⊢
            refine ⟨?_, ?_⟩
            · (have g0 := hr; have g1 := hDn; have g2 := hLn; exact GR3)
            (have g0 := hr; have g1 := hDn; have g2 := hLn; refine GD3 ?_; clear g0 g1 g2)
            refine GY ?_
            refine (hL4.call cursor_w rfl hq1).mono ?_
            rintro v H' ⟨R5, v0, W1, ι1, rfl, ⟨rfl, hW1⟩, rfl, hback⟩
            have hL5 := hback _ hW1
            clear hback hW1 hr hL4
            have hr := hL5.get (jr, _) List.mem_cons_self
            simp only [Val.ren, List.cons_append, List.nil_append] at hr ⊢
            refine ⟨?_, ?_⟩
            · (have g0 := hr; have g1 := hDn; have g2 := hLn; exact GR3)
            (have g0 := hr; have g1 := hDn; have g2 := hLn; refine GD3 ?_; clear g0 g1 g2)
            refine GY ?_
            refine (hL5.callV (fun W hW => held_c s [] W hW (fun p hp => by have := hTT.wt.slots hSp hp; omega)) rfl (by rintro v W' ⟨jo, _, h⟩; exact ⟨_, _, h⟩)).mono ?_
            rintro v H' ⟨R6, v0, W', ι, rfl, ⟨jo, rfl, hWH⟩, rfl, hback, hobj⟩
            obtain ⟨_, hget⟩ := hobj (jo + 7) _ (hWH.at_ (x := (jo, .rw (hC s s.S))) (by simp)) (hC_wf s 0 _)
            have hL6 := hback _ hWH.nil
            clear hback hobj hWH hr hL5
            have hr := hL6.get (jr, _) List.mem_cons_self
            simp only [Val.ren, List.cons_append, List.nil_append] at hr hget ⊢
            rw [hTT.held hSp] at hget
            generalize ι (jo + 7) = id at hget
            rw [hsS] at hget ⊢
            refine ⟨?_, ?_⟩
            · (have g0 := hr; have g1 := hDn; have g2 := hLn; exact GR3)
            (have g0 := hr; have g1 := hDn; have g2 := hLn; refine GD3 ?_; clear g0 g1 g2)
            refine GY ?_
            refine (rheld_ok S w room s.c oL oD L D.length _ (hKL.sl hL6 (fun x hx => by simp [hx])) (by omega) hS2 hok.c hhi).mono ?_
            rintro v H' ⟨j, N, rfl, rfl, _, hjN⟩
            have hL7 := hL6.push N
            have hget2 := hApp hget N
            clear hr hL6 hget
            simp only [List.cons_append, List.nil_append] at hL7 hjN hget2 ⊢
            generalize R6 ++ N = R7 at hL7 hjN hget2
            have hr := hL7.get (jr, _) List.mem_cons_self
            simp only at hr
            refine ⟨?_, ?_⟩
            · (have g0 := hr; have g1 := hDn; have g2 := hLn; exact GR3)
            (have g0 := hr; have g1 := hDn; have g2 := hLn; refine GD3 ?_; clear g0 g1 g2)
            refine GY ?_
            refine (ints_ok S id j (cntC L s.c S) _ hget2 hjN (by omega) (fun q hq => ⟨_, cntC_get L s.c S q hq⟩)).mono ?_
            rintro v H' ⟨rfl, rfl⟩
            refine ⟨?_, ?_⟩
            · (have g0 := hr; have g1 := hDn; have g2 := hLn; exact GR3)
            (have g0 := hr; have g1 := hDn; have g2 := hLn; refine GD3 ?_; clear g0 g1 g2)
            have ei : ((i : Nat) : Int) + 1 = ((i + 1 : Nat) : Int) := rfl
            (have g0 := ei; refine GG1 ?_; clear g0)
            refine ⟨l3.length - (i + 1), by omega, i + 1, R7, wid, jr, s, T, L, D, oL, oD, KL, by omega, rfl, rfl, ⟨hL7, hne, hKL, hKD, hTT, hsD, hsS, hsw, hsr, hle, hsp⟩, ?_⟩
            simp [Kp, Env.get, gV_new]
end Go.Proofs.YtmdilnelogechaaDoor.IR
