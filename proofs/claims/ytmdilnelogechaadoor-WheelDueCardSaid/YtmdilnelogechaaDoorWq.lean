/- This text of a proof shows: the law 'WheelDue'. -/
import Derived.Test.YtmdilnelogechaaDoorGg
import Derived.Test.YtmdilnelogechaaDoorWj
import Derived.Test.YtmdilnelogechaaDoorWo
set_option linter.unusedVariables false
set_option linter.unusedSimpArgs false
set_option linter.constructorNameAsVariable false
namespace Go.Proofs.YtmdilnelogechaaDoor.IR
open Go Go.Proofs.YtmdilnelogechaaDoor.Ev Go.Proofs.YtmdilnelogechaaDoor.Ev.Rb Go.Proofs.YtmdilnelogechaaDoor.Ev.Wh Go.Proofs.YtmdilnelogechaaDoor.Ext Go.Proofs.YtmdilnelogechaaDoorW.PrintWords
set_option linter.unusedSimpArgs false
set_option linter.unusedVariables false
set_option maxHeartbeats 4000000
attribute [local go_sem] skipV nc0 nc1 nc2 nc3 bne_self_eq_false decide_true decide_false IOp.step Opd.ev Env.get initEnv Val.cells? Val.one List.all_cons List.all_nil Bool.and_true Bool.and_self Bool.true_and bin ints eqv Val.kindNo lenNo_s lenNo_nils lenNo_sl lenNo_nilm lenNo_m lenOf_s lenOf_nils lenOf_sl lenOf_nilm unary partsOf padTo List.foldl_cons List.foldl_nil wr_nil wr_step wr_zero List.set_cons_zero List.set_cons_succ List.map_cons List.map_nil z1 z2 Nat.succ_ne_zero List.length_cons List.length_nil List.cons_append List.nil_append List.append_nil List.getElem?_cons_zero List.getElem?_cons_succ List.getElem?_nil Option.map_some Option.map_none Nat.zero_add Nat.add_zero List.drop_zero List.drop_succ_cons List.take_succ_cons List.take_zero List.take_nil and_self and_true true_and Nat.le_refl Bool.not_true Bool.not_false Option.getD_some window Val.slen bnd resV resL RV.val Bool.false_eq_true BEq.rfl Bool.true_beq Bool.false_beq beq_true beq_false mk_one ite_true ite_false eqc ceqs ceq NOp.step isK eq_self
attribute [local go_sem] gV_no
attribute [local go_sem] nat_toNat getC setC wr1 Nat.mul_one mxM
section
variable {P : Program} {pre : Nat → Nat → Bool} {its : List RItem} {r : List Nat} {wt : Watch} {ρ : Env} {H : Heap} {K : Env → Heap → Prop} {i d : Nat} {it : RItem}
theorem RunD_no (hi : its[i]? = some it) (hd : it.d = some d) (hg : guardOk it.g ρ = some false) (k : RunD P pre its r wt ((d, skipV) :: ρ) H K) : RunD P pre its (i :: r) wt ρ H K :=
  ⟨by simp only [EvD, hi, hg, hd, putv]; exact k.out⟩
end
def nC (qs : List Nat) : List Val := qs.map fun a => .i .u64 (a : Nat)
def bC (cm : List Bool) : List Val := cm.map .b
theorem nC_get {qs : List Nat} {j a : Nat} (h : qs[j]? = some a) : (nC qs)[j]? = some (.i .u64 (a : Nat)) := by simp [nC, h]
theorem bC_get {cm : List Bool} {j : Nat} {b : Bool} (h : cm[j]? = some b) : (bC cm)[j]? = some (.b b) := by simp [bC, h]
theorem bC_set (cm : List Bool) (j : Nat) (b : Bool) : (bC cm).set j (.b b) = bC (cm.set j b) := by simp [bC, List.map_set]
def DSl (qs : List Nat) (cm : List Bool) (v1 v2 : Val) (K : Jl) : Prop := (qs = [] ∧ cm = [] ∧ v1 = .nils ∧ v2 = .nils ∧ K = []) ∨ ∃ j1 j2 : Nat, j1 ≠ j2 ∧ v1 = .sl (j1 + 1) 0 qs.length 1 ∧ v2 = .sl (j2 + 1) 0 qs.length 1 ∧ K = [(j1, .rw (nC qs)), (j2, .rw (bC cm))]
def lastV (d : List Th) : Nat → Int
  | 0 => -1
  | q + 1 => ((d[q]?).map fun x => x.2.2).getD (-1)
def DuI (l : List Op3) (w : Nat) (o : GO) (k : Nat) (n : Nat) (ρ : Env) (H : Heap) : Prop :=
  ∃ (i : Nat) (R : Heap) (wid : Nat) (s : Ws) (T : Tl) (qs : List Nat) (cm : List Bool) (v1 v2 : Val) (K : Jl) (now : Nat), i ≤ k ∧ n = k - i ∧ H = .ro (o3C l) :: R ∧ LK [.ro (o3C l)] R wid s K ∧ DSl qs cm v1 v2 K ∧ DI s T [] qs cm w now ∧ qs.length ≤ i ∧ now ≤ 18446744073709551615 ∧ (∀ a ∈ qs, a ≤ 18446744073709551615) ∧
    Kp [(7, .p wid 0), (8, .i .u64 (w : Nat)), (10, v1), (11, v2), (12, .i .u64 (now : Nat)), (38, gV o 0 k 3), (39, .i .i64 (k : Nat)), (40, .i .i64 (i : Nat))] ρ
def DuT (l : List Op3) (w k i now wid : Nat) (v1 v2 : Val) (s1 : Ws) (d : List Th) (qs : List Nat) (cm : List Bool) (n : Nat) (ρ : Env) (H : Heap) : Prop :=
  ∃ (q : Nat) (R : Heap) (cm' : List Bool) (K : Jl), q ≤ d.length ∧ n = d.length - q ∧ H = .ro (o3C l) :: R ∧ LK [.ro (o3C l)] R wid { s1 with due := vs (d.drop q) } K ∧ Mk (d.take q) cm cm' ∧ DSl qs cm' v1 v2 K ∧
    Kp [(7, .p wid 0), (8, .i .u64 (w : Nat)), (10, v1), (11, v2), (12, .i .u64 (now : Nat)), (38, .sl 0 0 k 3), (39, .i .i64 (k : Nat)), (40, .i .i64 (i : Nat)), (16, .i .i64 (lastV d q)), (71, .i .i64 (d.length : Nat)), (72, .i .i64 (q : Nat))] ρ
def DuC (l : List Op3) (w k i now wid : Nat) (v1 v2 : Val) (R : Heap) (N : Nat) (n : Nat) (ρ : Env) (H : Heap) : Prop :=
  ∃ p : Nat, p ≤ N ∧ n = N - p ∧ H = .ro (o3C l) :: R ∧
    Kp [(7, .p wid 0), (8, .i .u64 (w : Nat)), (10, v1), (11, v2), (12, .i .u64 (now : Nat)), (38, .sl 0 0 k 3), (39, .i .i64 (k : Nat)), (40, .i .i64 (i : Nat)), (136, v1), (137, .i .i64 (N : Nat)), (138, .i .i64 (p : Nat))] ρ
theorem slot_due {a w now : Nat} (hw : 1 ≤ w) (h : slotN a w ≤ now / w) : a ≤ now := by
  have h1 : a ≤ slotN a w * w := by
    unfold slotN
    have := Nat.lt_div_mul_add (a := a + (w - 1)) (b := w) (by omega)
    omega
  have h2 : slotN a w * w ≤ now / w * w := Nat.mul_le_mul_right _ h
  have h3 : now / w * w ≤ now := Nat.div_mul_le_self _ _
  omega
theorem WheelDue_sound (a0 : Int) (a1 : Int) (l2 : List (Int × Int × Int)) (sv2 : Val)
    (w0 : (Lit.int .u8 a0).wf = true) (w1 : (Lit.int .u16 a1).wf = true) (s2 : SlArg sv2 0 l2.length 3) (m2 : l2.length ≤ maxLen) (e2 : ∀ x ∈ l2, (Lit.int .u8 x.1).wf = true ∧ (Lit.int .u64 x.2.1).wf = true ∧ (Lit.int .u64 x.2.2).wf = true) :
    SoundM Tryd.prog 1 3 [.i .u8 a0, .i .u16 a1, sv2] [.ro (l2.flatMap fun x => [.i .u8 x.1, .i .u64 x.2.1, .i .u64 x.2.2])] (fun v _ => v = .b true) := by
  obtain ⟨o, ho, hn, rfl⟩ := slO s2
  have ra0 : 0 ≤ a0 ∧ a0 ≤ 255 := by simpa [Lit.wf, IntKind.has, IntKind.min, IntKind.max, IntKind.bits, IntKind.signed] using w0
  have ra1 : 0 ≤ a1 ∧ a1 ≤ 65535 := by simpa [Lit.wf, IntKind.has, IntKind.min, IntKind.max, IntKind.bits, IntKind.signed] using w1
  have hml : l2.length ≤ 9223372036854775807 := Nat.le_trans m2 (by decide)
  have rl : ∀ x ∈ l2, 0 ≤ x.2.2 ∧ x.2.2 ≤ 18446744073709551615 := fun x hx => by
    have := (e2 x hx).2.2
    simpa [Lit.wf, IntKind.has, IntKind.min, IntKind.max, IntKind.bits, IntKind.signed] using this
  show SoundM _ _ _ _ [.ro (o3C l2)] _
  refine (sound_func Tryd.func3 c3 rfl (by simp) ?_)
  have hmin : mxs true (.i .i64 ((l2.length : Nat) : Int)) [.i .i64 80] = some (.i .i64 ((min l2.length 80 : Nat) : Int)) := by
    rcases Nat.le_total l2.length 80 with h | h
    · rw [mn_lo (by omega), Nat.min_eq_left h]
    · rw [mn_hi (by omega), Nat.min_eq_right h]; rfl
  obtain ⟨k, hk, hk80, hkl⟩ : ∃ k, k = min l2.length 80 ∧ k ≤ 80 ∧ k ≤ l2.length := ⟨_, rfl, by omega, by omega⟩
  rw [← hk] at hmin
  clear hk
  simp only [e3, mvT, opT, onT, unT, clT]
  obtain ⟨S, hS⟩ : ∃ S : Nat, S = 2 + (a0 % 64).toNat := ⟨_, rfl⟩
  obtain ⟨w, hw⟩ : ∃ w : Nat, w = 1 + (a1 % 1000).toNat := ⟨_, rfl⟩
  have hS1 : 2 ≤ S := by omega
  have hwpos : 0 < w := by omega
  have hw1000 : w ≤ 1000 := by omega
  refine GG0 ?_
  (first | ((with_reducible first | apply RunP.call | apply Run.call | apply Run.call0); iterate 2 (· (simp only [go_sem, reduceIte, Nat.reduceEqDiff]; (try with_reducible exact rfl)))) | ((with_reducible first | apply Run.callY | apply RunP.callY); iterate 3 (· (simp only [go_sem, reduceIte, Nat.reduceEqDiff]; (try with_reducible exact rfl)))))
  refine (made_c _ a0 a1 S w ra0 ra1 hS hw).mono ?_
  rintro v H' ⟨R, wid, rfl, rfl, hLW⟩
  simp only [List.cons_append, List.nil_append]
  clear hS hw
  (have g0 := gV_len hn; have g1 := hmin; refine GG2 ?_; clear g0 g1)
  refine Aa (gSlic (o := o) (id := 0) (n := l2.length) (k := k) (by (simp only [go_sem, reduceIte, Nat.reduceEqDiff]; (try with_reducible exact rfl))) ho hn (by (simp only [go_sem, reduceIte, Nat.reduceEqDiff]; (try with_reducible exact rfl))) hkl) ?_
  have hnk : o = none → k = 0 := fun e => by have := hn e; omega
  (have g0 := gV_len hnk; refine GG1 ?_; clear g0)
  refine ei_loop (DuI l2 w o k) (n := k) ?_ ?_
  · refine ⟨0, R, wid, _, [], [], [], .nils, .nils, [], 0, by omega, rfl, rfl, LK.of hLW, .inl ⟨rfl, rfl, rfl, rfl, rfl⟩, DI.init hS1, Nat.le_refl _, by omega, by simp, ?_⟩
    simp [Kp, Env.get, initEnv]
  · clear hLW R wid hS1 ra0 ra1 w0 w1
    rintro n ρ H ⟨i, R, wid, s, T, qs, cm, v1, v2, K, now, hi, rfl, rfl, hLK, hSl, hD, hqi, hnow, hqs, hρ⟩
    refine ei_few _ hρ ?_
    clear hρ
    by_cases hik : i = k
    · subst hik
      have hz : ¬ (((i : Nat) : Int) < ((i : Nat) : Int)) := by omega
      (have g0 := decide_f hz; refine GG1 ?_; clear g0)
      (first | ((with_reducible first | apply RunP.call | apply Run.call | apply Run.call0); iterate 2 (· (simp only [go_sem, reduceIte, Nat.reduceEqDiff]; (try with_reducible exact rfl)))) | ((with_reducible first | apply Run.callY | apply RunP.callY); iterate 3 (· (simp only [go_sem, reduceIte, Nat.reduceEqDiff]; (try with_reducible exact rfl)))))
      refine (awake_sound _).mono ?_
      rintro v H' ⟨rfl, rfl⟩
      refine GG0 ?_
      rfl
    · have hz : (((i : Nat) : Int) < ((k : Nat) : Int)) := by omega
      obtain ⟨x, hx⟩ : ∃ x, l2[i]? = some x := ⟨l2[i], List.getElem?_eq_getElem (by omega)⟩
      rcases x with ⟨x1, x2, x3⟩
      obtain ⟨hx1, hx2⟩ := o3_win hx
      obtain ⟨t, rfl⟩ : ∃ t : Nat, x3 = (t : Nat) := ⟨x3.toNat, by have := (rl _ (List.mem_of_getElem? hx)).1; simp at this; omega⟩
      have ht2 : t ≤ 18446744073709551615 := by have := (rl _ (List.mem_of_getElem? hx)).2; simp at this; omega
      rcases ho with rfl | rfl
      · exact absurd (hnk rfl) (by omega)
      simp only [gV_new, o3] at hx1 ⊢
      (have g0 := decide_t hz; have g1 := hx1; refine GG2 ?_; clear g0 g1)
      have hLKb := hLK.pushK (.rw [.i .u8 x1, .i .u64 x2, .i .u64 (t : Nat)])
      have hok := hLK.ok
      have hSp : 0 < s.S := by have := hok.S2; omega
      have ei : ((i : Nat) : Int) + 1 = ((i + 1 : Nat) : Int) := rfl
      obtain ⟨c1, c2, c3, c4, c5⟩ := hD.st
      have hdue0 : s.due = [] := hD.due
      by_cases h1 : x1 = 1
      · subst h1
        have hb : ((1 : Int) == 1) = true := rfl
        have hb0 : ((0 : Int) != 0) = false := rfl
        have hput : ∀ W, WH s [] W → SoundCall Tryd.prog 10 [.p 0 0, .i .u64 (qs.length : Nat), .i .u64 (t : Nat)] W (fun v W' => v = .i .i64 0 ∧ WH (put1 s (qs.length : Nat) t) [] W') := fun W hW =>
          (put_c s [] W hW (qs.length : Nat) t ht2 (by have := hD.wt.slots hSp (q := stP s (slotN t s.w : Nat)) (Nat.mod_lt _ hSp); omega) (by omega)).mono fun v W' q => by
            rcases q with ⟨h, _⟩ | ⟨_, h1, h2⟩
            · exact absurd h (by rw [hdue0, c2]; simp; omega)
            · exact ⟨h1, h2⟩
        have hD2 := hD.put hok ht2 (by omega)
        have hqs2 : ∀ a ∈ qs ++ [t], a ≤ 18446744073709551615 := fun a ha => by
          rcases List.mem_append.1 ha with ha | ha
          · exact hqs a ha
          · simp at ha; omega
        have enC : nC (qs ++ [t]) = nC qs ++ [.i .u64 (t : Nat)] := by simp [nC]
        have ebC : bC (cm ++ [false]) = bC cm ++ [.b false] := by simp [bC]
        rcases hSl with ⟨rfl, rfl, rfl, rfl, rfl⟩ | ⟨j1, j2, hj, rfl, rfl, rfl⟩
        · (have g0 := hb; refine GG1 ?_; clear g0)
          (first | ((with_reducible first | apply RunP.call | apply Run.call | apply Run.call0); iterate 2 (· (simp only [go_sem, reduceIte, Nat.reduceEqDiff]; (try with_reducible exact rfl)))) | ((with_reducible first | apply Run.callY | apply RunP.callY); iterate 3 (· (simp only [go_sem, reduceIte, Nat.reduceEqDiff]; (try with_reducible exact rfl)))))
          refine (hLKb.call hput rfl hq1).mono ?_
          rintro v H' ⟨R1, v0, W1, ι1, rfl, ⟨rfl, hW1⟩, rfl, hback⟩
          have hL1 := hback _ hW1
          clear hback hW1 hLKb
          have gop := hL1.get (R.length, _) List.mem_cons_self
          simp only [Val.ren, List.cons_append, List.nil_append] at gop ⊢
          (have g0 := hb0; have g1 := gop; have g2 := ei; refine GG3 ?_; clear g0 g1 g2)
          have hL2 := ((hL1.less (K' := []) (by simp)).push [AObj.rw [.i .u64 (t : Nat)]]).pushK (.rw [.i .u64 (t : Nat)])
          have hL3 := (hL2.push [AObj.rw [.b false]]).pushK (.rw [.b false])
          have hL4 := hL3.less (K' := [((R1 ++ [AObj.rw [.i .u64 (t : Nat)]]).length, .rw [.i .u64 (t : Nat)]), (((R1 ++ [AObj.rw [.i .u64 (t : Nat)]] ++ [AObj.rw [.i .u64 (t : Nat)]]) ++ [AObj.rw [.b false]]).length, .rw [.b false])]) (fun x hx => by simp only [List.mem_cons, List.not_mem_nil, or_false] at hx ⊢; exact hx.symm)
          refine ⟨k - (i + 1), by omega, i + 1, _, wid, _, _, [t], [false], _, _, _, now, by omega, rfl, rfl, hL4, .inr ⟨_, _, ?_, rfl, rfl, rfl⟩, hD2, by simp, hnow, hqs2, ?_⟩
          · simp
          · simp [Kp, Env.get, gV_new]
        · have hN : qs.length ≤ 80 := by omega
          (have g0 := hb; refine GG1 ?_; clear g0)
          (first | ((with_reducible first | apply RunP.call | apply Run.call | apply Run.call0); iterate 2 (· (simp only [go_sem, reduceIte, Nat.reduceEqDiff]; (try with_reducible exact rfl)))) | ((with_reducible first | apply Run.callY | apply RunP.callY); iterate 3 (· (simp only [go_sem, reduceIte, Nat.reduceEqDiff]; (try with_reducible exact rfl)))))
          refine (hLKb.call hput rfl hq1).mono ?_
          rintro v H' ⟨R1, v0, W1, ι1, rfl, ⟨rfl, hW1⟩, rfl, hback⟩
          have hL1 := hback _ hW1
          clear hback hW1 hLKb
          have gop := hL1.get (R.length, _) List.mem_cons_self
          simp only [Val.ren, List.cons_append, List.nil_append] at gop ⊢
          have hL2 := (hL1.less (K' := [(j1, .rw (nC qs)), (j2, .rw (bC cm))]) (fun x hx => List.mem_cons_of_mem _ hx)).push [AObj.rw [.i .u64 (t : Nat)]]
          have gj1 := hL2.get (j1, _) List.mem_cons_self
          obtain ⟨hL3, _⟩ := hL2.app hj (.rw (nC qs ++ [.i .u64 (t : Nat)]))
          have hL4 := hL3.push [AObj.rw [.b false]]
          have gj2 := hL4.get (j2, _) List.mem_cons_self
          obtain ⟨hL6, hne⟩ := hL4.app (by have := (List.getElem?_eq_some_iff.1 (hL2.get (j2, .rw (bC cm)) (by simp))).1; simp only at this; omega) (.rw (bC cm ++ [.b false]))
          (have g0 := hb0; have g1 := gop; refine GG2 ?_; clear g0 g1)
          refine Aa (appOne (a := []) (id := j1 + 1) (c := nC qs) (n := qs.length) (j := R1.length + 1) (new := [.i .u64 (t : Nat)]) (by (simp only [go_sem, reduceIte, Nat.reduceEqDiff]; (try with_reducible exact rfl))) (by (simp only [go_sem, reduceIte, Nat.reduceEqDiff, gj1]; (try with_reducible exact rfl))) (by simp [nC]) (by (simp only [go_sem, reduceIte, Nat.reduceEqDiff]; (try with_reducible exact rfl))) (by (simp only [go_sem, reduceIte, Nat.reduceEqDiff]; (try with_reducible exact rfl))) rfl (by omega)) ?_
          refine GG0 ?_
          refine Aa (appOne (a := []) (id := j2 + 1) (c := bC cm) (n := qs.length) (j := (((R1 ++ [AObj.rw [.i .u64 (t : Nat)]]).set j1 .dead) ++ [AObj.rw (nC qs ++ [.i .u64 (t : Nat)])]).length + 1) (new := [.b false]) (by (simp only [go_sem, reduceIte, Nat.reduceEqDiff]; (try with_reducible exact rfl))) (by (simp only [go_sem, reduceIte, Nat.reduceEqDiff, gj2]; (try with_reducible exact rfl))) (by simp [bC, hD.len]) (by (simp only [go_sem, reduceIte, Nat.reduceEqDiff]; (try with_reducible exact rfl))) (by (simp only [go_sem, reduceIte, Nat.reduceEqDiff]; (try with_reducible exact rfl))) rfl (by omega)) ?_
          (have g0 := ei; refine GG1 ?_; clear g0)
          refine ⟨k - (i + 1), by omega, i + 1, _, wid, _, _, qs ++ [t], cm ++ [false], _, _, _, now, by omega, rfl, rfl, hL6, .inr ⟨_, _, Nat.ne_of_lt hne, rfl, rfl, by rw [enC, ebC]⟩, hD2, by simp; omega, hnow, hqs2, ?_⟩
          simp [Kp, Env.get, gV_new]
      · have hb1 : (x1 == 1) = false := by simpa using h1
        have em : max ((now : Nat) : Int) ((t : Nat) : Int) = ((max now t : Nat) : Int) := by omega
        (have g0 := hb1; have g1 := em; refine GG2 ?_; clear g0 g1)
        (first | ((with_reducible first | apply RunP.call | apply Run.call | apply Run.call0); iterate 2 (· (simp only [go_sem, reduceIte, Nat.reduceEqDiff]; (try with_reducible exact rfl)))) | ((with_reducible first | apply Run.callY | apply RunP.callY); iterate 3 (· (simp only [go_sem, reduceIte, Nat.reduceEqDiff]; (try with_reducible exact rfl)))))
        refine (hLKb.call (fun W hW => adv_c s [] W hW T hD.wt t ht2 (by omega)) rfl (by rintro v W' ⟨l, s', _, _, _, h, _⟩; exact ⟨_, _, h⟩)).mono ?_
        rintro v H' ⟨R1, v0, W1, ι1, rfl, ⟨l, s1, hp, hso, rfl, hWH, hA⟩, rfl, hback⟩
        have hL1 := (hback _ hWH).less (K' := K) (fun x hx => List.mem_cons_of_mem _ hx)
        obtain ⟨hD1, hlate⟩ := hD.adv t hp hso hA
        clear hback hWH hLKb hp hso hA hLK
        obtain ⟨T1, hT1⟩ : ∃ T1, T1 = (T.filter fun y => max s.c (t / s.w) < y.2) ++ again s.S (max s.c (t / s.w)) (farL (max s.c (t / s.w)) l) := ⟨_, rfl⟩
        rw [← hT1] at hD1 hlate
        clear hT1
        generalize dueL (max s.c (t / s.w)) l = d at hD1 ⊢
        have hnow2 : max now t ≤ 18446744073709551615 := by omega
        generalize max now t = nw at hD1 hlate hnow2 ⊢
        simp only [Val.ren, List.cons_append, List.nil_append]
        clear hok hSp c1 c2 c3 c4 c5 hdue0 hD T s
        obtain ⟨c1, c2, c3, c4, c5⟩ := hD1.st
        refine GG0 ?_
        refine ei_loop (DuT l2 w k i nw wid v1 v2 s1 d qs cm) (n := d.length) ?_ ?_
        · refine ⟨0, R1, cm, K, Nat.zero_le _, rfl, rfl, ?_, Mk.nil cm, hSl, ?_⟩
          · have e : { s1 with due := vs (d.drop 0) } = s1 := by rw [List.drop_zero, ← hD1.due]
            rw [e]; exact hL1
          · simp [Kp, Env.get, gV_new, lastV]
        · clear hL1 hSl R1 K
          rintro n ρ H ⟨q, R, cm', K, hq, rfl, rfl, hLK, hMk, hSl, hρ⟩
          refine ei_few _ hρ ?_
          clear hρ
          by_cases hqd : q = d.length
          · subst hqd
            have hzq : ¬ (((d.length : Nat) : Int) < ((d.length : Nat) : Int)) := by omega
            rw [List.take_length] at hMk
            rw [List.drop_length] at hLK
            have hD3 := hD1.take hlate hMk
            have hlv : v1.lenNo = 2 ∧ ∀ H, lenOf v1 H = some (.i .i64 (qs.length : Nat)) := by
              rcases hSl with ⟨rfl, rfl, rfl, rfl, rfl⟩ | ⟨j1, j2, hj, rfl, rfl, rfl⟩ <;> exact ⟨rfl, fun _ => rfl⟩
            (have g0 := decide_f hzq; have g1 := hlv.1; have g2 := hlv.2; refine GG3 ?_; clear g0 g1 g2)
            refine ei_loop (DuC l2 w k i nw wid v1 v2 R qs.length) (n := qs.length) ?_ ?_
            · refine ⟨0, Nat.zero_le _, rfl, rfl, ?_⟩
              simp [Kp, Env.get]
            · rintro n ρ H ⟨p, hp, rfl, rfl, hρ⟩
              refine ei_few _ hρ ?_
              clear hρ
              by_cases hpN : p = qs.length
              · subst hpN
                have hzp : ¬ (((qs.length : Nat) : Int) < ((qs.length : Nat) : Int)) := by omega
                have hb0 : ((0 : Int) != 0) = false := rfl
                have htake : ∀ W, WH { s1 with due := [] } [] W → SoundCall Tryd.prog 12 [.p 0 0] W (fun v W' => v = .tup [.i .u64 0, .b false] ∧ WH { s1 with due := [] } [] W') := fun W hW =>
                  (take_c _ [] W hW).mono fun v W' q => by
                    rcases q with ⟨_, h1, h2⟩ | ⟨y, l', h, _⟩
                    · exact ⟨h1, h2⟩
                    · cases h
                (have g0 := decide_f hzp; refine GG1 ?_; clear g0)
                (first | ((with_reducible first | apply RunP.call | apply Run.call | apply Run.call0); iterate 2 (· (simp only [go_sem, reduceIte, Nat.reduceEqDiff]; (try with_reducible exact rfl)))) | ((with_reducible first | apply Run.callY | apply RunP.callY); iterate 3 (· (simp only [go_sem, reduceIte, Nat.reduceEqDiff]; (try with_reducible exact rfl)))))
                refine (hLK.call htake rfl hq1).mono ?_
                rintro v H' ⟨R2, v0, W1, ι1, rfl, ⟨rfl, hW1⟩, rfl, hback⟩
                have hL2 := hback _ hW1
                clear hback hW1
                simp only [Val.ren, renL, List.cons_append, List.nil_append]
                refine GG0 ?_
                (first | ((with_reducible first | apply RunP.call | apply Run.call | apply Run.call0); iterate 2 (· (simp only [go_sem, reduceIte, Nat.reduceEqDiff]; (try with_reducible exact rfl)))) | ((with_reducible first | apply Run.callY | apply RunP.callY); iterate 3 (· (simp only [go_sem, reduceIte, Nat.reduceEqDiff]; (try with_reducible exact rfl)))))
                refine (hL2.call due_w rfl hq1).mono ?_
                rintro v H' ⟨R3, v0, W1, ι1, rfl, ⟨rfl, hW1⟩, rfl, hback⟩
                have hL3 := hback _ hW1
                clear hback hW1
                simp only [Val.ren, List.length_nil, Int.natCast_zero, List.cons_append, List.nil_append]
                (have g0 := hb0; have g1 := ei; refine GG2 ?_; clear g0 g1)
                refine ⟨k - (i + 1), by omega, i + 1, R3, wid, _, T1, qs, cm', v1, v2, K, nw, by omega, rfl, rfl, hL3, hSl, hD3, by omega, hnow2, hqs, ?_⟩
                simp [Kp, Env.get, gV_new]
              · have hzp : (((p : Nat) : Int) < ((qs.length : Nat) : Int)) := by omega
                have epn : ((p : Nat) : Int) + 1 = ((p + 1 : Nat) : Int) := rfl
                rcases hSl with ⟨rfl, _⟩ | ⟨j1, j2, hj, rfl, rfl, rfl⟩
                · simp at hzp; omega
                have ga := hLK.get (j1, _) List.mem_cons_self
                have gb := hLK.get (j2, .rw (bC cm')) (by simp)
                obtain ⟨a, ha⟩ : ∃ a, qs[p]? = some a := ⟨qs[p], List.getElem?_eq_getElem (by omega)⟩
                obtain ⟨b, hb⟩ : ∃ b, cm'[p]? = some b := ⟨cm'[p]'(by have := hD3.len; omega), List.getElem?_eq_getElem _⟩
                have hga := nC_get ha
                have hgb := bC_get hb
                have ha2 := hqs a (List.mem_of_getElem? ha)
                have hplt : p < qs.length := by omega
                simp only at ga gb
                rcases b with _ | _
                · have hsl : ¬ (((slotN a w : Nat) : Int) ≤ ((nw / w : Nat) : Int)) := by
                    have hx := (hD3.mem _).2 ⟨p, a, ha, hb, rfl⟩
                    rcases hx with hx | hx
                    · cases hx
                    · obtain ⟨y, hy, e⟩ := List.mem_map.1 hx
                      have := hlate y hy
                      rw [e] at this
                      simp only at this
                      omega
                  have e1 : ((nw : Nat) : Int).tdiv ((w : Nat) : Int) = ((nw / w : Nat) : Int) := by rw [← Int.ofNat_tdiv]
                  have hw0 : ¬ ((w : Nat) : Int) = 0 := by omega
                  have e1b : ((nw : Nat) : Int) / ((w : Nat) : Int) = ((nw / w : Nat) : Int) := rfl
                  have hnq := Nat.div_le_self nw w
                  generalize nw / w = nq at e1 e1b hsl hnq
                  (have g0 := decide_t hzp; have g1 := ga; have g2 := hga; refine GN3 ?_; clear g0 g1 g2)
                  refine ei_dregD ?_
                  repeat (first
                    | ((with_reducible apply RunD.op0); (· rfl); (· rfl); (· (simp only [go_sem, Int.reduceBEq, Int.reduceBNe, Int.reduceLT, Int.reduceLE, Int.reduceAdd, Int.reduceSub, Int.reduceToNat, reduceIte, Nat.reduceEqDiff, Nat.reduceAdd, Nat.reduceMul, Nat.reduceLeDiff, Nat.reduceSub, reduceCtorEq, gb, hgb]; (try simp (disch := omega) only [OM, mn_lo, mn_hi, mx_lo, mx_hi, if_yes, if_no, Option.map_some, gb, hgb]); (try with_reducible exact rfl)))) | ((with_reducible apply RunD.op1); (· rfl); (· rfl); (· (simp only [go_sem, Int.reduceBEq, Int.reduceBNe, Int.reduceLT, Int.reduceLE, Int.reduceAdd, Int.reduceSub, Int.reduceToNat, reduceIte, Nat.reduceEqDiff, Nat.reduceAdd, Nat.reduceMul, Nat.reduceLeDiff, Nat.reduceSub, reduceCtorEq, gb, hgb]; (try simp (disch := omega) only [OM, mn_lo, mn_hi, mx_lo, mx_hi, if_yes, if_no, Option.map_some, gb, hgb]); (try with_reducible exact rfl))))
                    | ((with_reducible apply RunD.op0Y); (· rfl); (· (simp only [go_sem, reduceIte, Nat.reduceEqDiff]; (try with_reducible exact rfl))); (· rfl); (· (simp only [go_sem, Int.reduceBEq, Int.reduceBNe, Int.reduceLT, Int.reduceLE, Int.reduceAdd, Int.reduceSub, Int.reduceToNat, reduceIte, Nat.reduceEqDiff, Nat.reduceAdd, Nat.reduceMul, Nat.reduceLeDiff, Nat.reduceSub, reduceCtorEq, gb, hgb]; (try simp (disch := omega) only [OM, mn_lo, mn_hi, mx_lo, mx_hi, if_yes, if_no, Option.map_some, gb, hgb]); (try with_reducible exact rfl)))) | ((with_reducible apply RunD.op1Y); (· rfl); (· (simp only [go_sem, reduceIte, Nat.reduceEqDiff]; (try with_reducible exact rfl))); (· rfl); (· (simp only [go_sem, Int.reduceBEq, Int.reduceBNe, Int.reduceLT, Int.reduceLE, Int.reduceAdd, Int.reduceSub, Int.reduceToNat, reduceIte, Nat.reduceEqDiff, Nat.reduceAdd, Nat.reduceMul, Nat.reduceLeDiff, Nat.reduceSub, reduceCtorEq, gb, hgb]; (try simp (disch := omega) only [OM, mn_lo, mn_hi, mx_lo, mx_hi, if_yes, if_no, Option.map_some, gb, hgb]); (try with_reducible exact rfl))))
                    | (with_reducible apply RunD.nil))
                  ((with_reducible apply RunD.callY); (· rfl); (· (simp only [go_sem, reduceIte, Nat.reduceEqDiff]; (try with_reducible exact rfl))); (· (simp only [go_sem, reduceIte, Nat.reduceEqDiff]; (try with_reducible exact rfl))); (· (simp only [go_sem, reduceIte, Nat.reduceEqDiff]; (try with_reducible exact rfl))))
                  refine (slot_ok a w ha2 (by omega) (by omega) _).mono ?_
                  rintro v H' ⟨rfl, rfl⟩
                  refine ⟨?_, ?_⟩
                  · (repeat (first | exact recheck_nil | (refine rc_in (by decide) ?_) | (refine rc_now (by (simp only [go_sem, Int.reduceBEq, Int.reduceBNe, Int.reduceLT, Int.reduceLE, Int.reduceAdd, Int.reduceSub, Int.reduceToNat, reduceIte, Nat.reduceEqDiff, Nat.reduceAdd, Nat.reduceMul, Nat.reduceLeDiff, Nat.reduceSub, reduceCtorEq, gb, hgb]; (try simp (disch := omega) only [OM, mn_lo, mn_hi, mx_lo, mx_hi, if_yes, if_no, Option.map_some, gb, hgb]); (try with_reducible exact rfl))) ?_)))
                  repeat (first
                    | ((with_reducible apply RunD.op0); (· rfl); (· rfl); (· (simp only [go_sem, Int.reduceBEq, Int.reduceBNe, Int.reduceLT, Int.reduceLE, Int.reduceAdd, Int.reduceSub, Int.reduceToNat, reduceIte, Nat.reduceEqDiff, Nat.reduceAdd, Nat.reduceMul, Nat.reduceLeDiff, Nat.reduceSub, reduceCtorEq, e1, e1b, decide_f hsl]; (try simp (disch := omega) only [OM, mn_lo, mn_hi, mx_lo, mx_hi, if_yes, if_no, Option.map_some, e1, e1b, decide_f hsl]); (try with_reducible exact rfl)))) | ((with_reducible apply RunD.op1); (· rfl); (· rfl); (· (simp only [go_sem, Int.reduceBEq, Int.reduceBNe, Int.reduceLT, Int.reduceLE, Int.reduceAdd, Int.reduceSub, Int.reduceToNat, reduceIte, Nat.reduceEqDiff, Nat.reduceAdd, Nat.reduceMul, Nat.reduceLeDiff, Nat.reduceSub, reduceCtorEq, e1, e1b, decide_f hsl]; (try simp (disch := omega) only [OM, mn_lo, mn_hi, mx_lo, mx_hi, if_yes, if_no, Option.map_some, e1, e1b, decide_f hsl]); (try with_reducible exact rfl))))
                    | ((with_reducible apply RunD.op0Y); (· rfl); (· (simp only [go_sem, reduceIte, Nat.reduceEqDiff]; (try with_reducible exact rfl))); (· rfl); (· (simp only [go_sem, Int.reduceBEq, Int.reduceBNe, Int.reduceLT, Int.reduceLE, Int.reduceAdd, Int.reduceSub, Int.reduceToNat, reduceIte, Nat.reduceEqDiff, Nat.reduceAdd, Nat.reduceMul, Nat.reduceLeDiff, Nat.reduceSub, reduceCtorEq, e1, e1b, decide_f hsl]; (try simp (disch := omega) only [OM, mn_lo, mn_hi, mx_lo, mx_hi, if_yes, if_no, Option.map_some, e1, e1b, decide_f hsl]); (try with_reducible exact rfl)))) | ((with_reducible apply RunD.op1Y); (· rfl); (· (simp only [go_sem, reduceIte, Nat.reduceEqDiff]; (try with_reducible exact rfl))); (· rfl); (· (simp only [go_sem, Int.reduceBEq, Int.reduceBNe, Int.reduceLT, Int.reduceLE, Int.reduceAdd, Int.reduceSub, Int.reduceToNat, reduceIte, Nat.reduceEqDiff, Nat.reduceAdd, Nat.reduceMul, Nat.reduceLeDiff, Nat.reduceSub, reduceCtorEq, e1, e1b, decide_f hsl]; (try simp (disch := omega) only [OM, mn_lo, mn_hi, mx_lo, mx_hi, if_yes, if_no, Option.map_some, e1, e1b, decide_f hsl]); (try with_reducible exact rfl))))
                    | (with_reducible apply RunD.nil))
                  (have g0 := epn; refine GG1 ?_; clear g0)
                  refine ⟨qs.length - (p + 1), by omega, p + 1, by omega, rfl, rfl, ?_⟩
                  simp [Kp, Env.get]
                · (have g0 := decide_t hzp; have g1 := ga; have g2 := hga; refine GN3 ?_; clear g0 g1 g2)
                  refine ei_dregD ?_
                  repeat (first
                    | ((with_reducible apply RunD.op0); (· rfl); (· rfl); (· (simp only [go_sem, Int.reduceBEq, Int.reduceBNe, Int.reduceLT, Int.reduceLE, Int.reduceAdd, Int.reduceSub, Int.reduceToNat, reduceIte, Nat.reduceEqDiff, Nat.reduceAdd, Nat.reduceMul, Nat.reduceLeDiff, Nat.reduceSub, reduceCtorEq, gb, hgb]; (try simp (disch := omega) only [OM, mn_lo, mn_hi, mx_lo, mx_hi, if_yes, if_no, Option.map_some, gb, hgb]); (try with_reducible exact rfl)))) | ((with_reducible apply RunD.op1); (· rfl); (· rfl); (· (simp only [go_sem, Int.reduceBEq, Int.reduceBNe, Int.reduceLT, Int.reduceLE, Int.reduceAdd, Int.reduceSub, Int.reduceToNat, reduceIte, Nat.reduceEqDiff, Nat.reduceAdd, Nat.reduceMul, Nat.reduceLeDiff, Nat.reduceSub, reduceCtorEq, gb, hgb]; (try simp (disch := omega) only [OM, mn_lo, mn_hi, mx_lo, mx_hi, if_yes, if_no, Option.map_some, gb, hgb]); (try with_reducible exact rfl))))
                    | ((with_reducible apply RunD_no); (· rfl); (· rfl); (· (simp only [go_sem, reduceIte, Nat.reduceEqDiff, RItem.g, guardOk]; (try with_reducible exact rfl))))
                    | (with_reducible apply RunD.nil))
                  (have g0 := epn; refine GG1 ?_; clear g0)
                  refine ⟨qs.length - (p + 1), by omega, p + 1, by omega, rfl, rfl, ?_⟩
                  simp [Kp, Env.get]
          · have hzq : (((q : Nat) : Int) < ((d.length : Nat) : Int)) := by omega
            have eqn : ((q : Nat) : Int) + 1 = ((q + 1 : Nat) : Int) := rfl
            obtain ⟨x, hx⟩ : ∃ x, d[q]? = some x := ⟨d[q], List.getElem?_eq_getElem (by omega)⟩
            have hnd := hD1.nodup hx
            obtain ⟨j, a, hqa, hcf, rfl⟩ := (hD1.mem x).1 (.inl (List.mem_of_getElem? hx))
            have hdone := hD1.done _ (List.mem_of_getElem? hx)
            have hjlt := (List.getElem?_eq_some_iff.1 hqa).1
            rcases hSl with ⟨rfl, _⟩ | ⟨j1, j2, hj, rfl, rfl, rfl⟩
            · simp at hjlt
            have hcm : cm'[j]? = some false := by
              rw [hMk j, hcf]
              have : ((d.take q).any fun x => x.2.2 == ((j : Nat) : Int)) = false := by
                rw [List.any_eq_false]
                intro y hy e
                exact hnd y hy (by simpa using e)
              rw [this]; rfl
            have hdrop : d.drop q = (((slotN a w : Nat) : Int), ((j : Nat) : Int), ((j : Nat) : Int)) :: d.drop (q + 1) := by
              obtain ⟨hl, e⟩ := List.getElem?_eq_some_iff.1 hx
              rw [← e]; exact (List.drop_eq_getElem_cons hl)
            have htk : d.take (q + 1) = d.take q ++ [(((slotN a w : Nat) : Int), ((j : Nat) : Int), ((j : Nat) : Int))] := by rw [List.take_add_one, hx]; rfl
            have htake : ∀ W, WH { s1 with due := vs (d.drop q) } [] W → SoundCall Tryd.prog 12 [.p 0 0] W (fun v W' => v = .tup [.i .u64 (j : Nat), .b true] ∧ WH { s1 with due := vs (d.drop (q + 1)) } [] W') := fun W hW =>
              (take_c _ [] W hW).mono fun v W' p => by
                rcases p with ⟨h, _⟩ | ⟨y, l', h, h1, h2⟩
                · rw [hdrop] at h; cases h
                · rw [hdrop] at h
                  simp only [vs, List.map_cons, List.cons.injEq] at h
                  obtain ⟨rfl, rfl⟩ := h
                  exact ⟨h1, h2⟩
            have ha2 := hqs a (List.mem_of_getElem? hqa)
            have han : a ≤ nw := slot_due (w := w) (by omega) (by rw [c3] at hdone; simp only at hdone; omega)
            have hge : ¬ (((j : Nat) : Int) ≥ ((qs.length : Nat) : Int)) := by omega
            have hgt : ¬ (((a : Nat) : Int) > ((nw : Nat) : Int)) := by omega
            have hN : qs.length ≤ 80 := by omega
            have hdl : d.length ≤ 65536 := by
              have := hD1.wt.sum
              rw [hD1.due] at this
              simp only [vs, List.length_map] at this
              omega
            have hga := nC_get hqa
            have hgb := bC_get hcm
            have hbl : (bC cm').length = qs.length := by simp [bC, hMk.len, hD1.len]
            (have g0 := decide_t hzq; refine GG1 ?_; clear g0)
            (first | ((with_reducible first | apply RunP.call | apply Run.call | apply Run.call0); iterate 2 (· (simp only [go_sem, reduceIte, Nat.reduceEqDiff]; (try with_reducible exact rfl)))) | ((with_reducible first | apply Run.callY | apply RunP.callY); iterate 3 (· (simp only [go_sem, reduceIte, Nat.reduceEqDiff]; (try with_reducible exact rfl)))))
            refine (hLK.call htake rfl hq1).mono ?_
            rintro v H' ⟨R2, v0, W1, ι1, rfl, ⟨rfl, hW1⟩, rfl, hback⟩
            have hL2 := hback _ hW1
            clear hback hW1
            have ga := hL2.get (j1, _) List.mem_cons_self
            have gb := hL2.get (j2, .rw (bC cm')) (by simp)
            have hL3 := ((hL2.less (K' := [(j2, .rw (bC cm')), (j1, .rw (nC qs))]) (fun x hx => by simp only [List.mem_cons, List.not_mem_nil, or_false] at hx ⊢; exact hx.symm)).set (fun x hx => by simp only [List.mem_singleton] at hx; subst hx; exact hj) (.rw (bC (cm'.set j true)))).less (K' := [(j1, .rw (nC qs)), (j2, .rw (bC (cm'.set j true)))]) (fun x hx => by simp only [List.mem_cons, List.not_mem_nil, or_false] at hx ⊢; exact hx.symm)
            have gc := hL3.get (j1, _) List.mem_cons_self
            have hMk2 : Mk (d.take (q + 1)) cm (cm'.set j true) := by rw [htk]; exact hMk.step rfl
            simp only [Val.ren, renL, List.cons_append, List.nil_append] at ga gb gc ⊢
            have hlast : lastV d (q + 1) = ((j : Nat) : Int) := by simp [lastV, hx]
            rcases q with _ | q'
            · have hm1 : ¬ ((-1 : Int) ≥ 0) := by omega
              simp only [lastV]
              (have g0 := decide_f hge; have g1 := decide_f hgt; have g2 := ga; have g3 := gb; have g4 := hga; have g5 := hgb; have g6 := hbl; have g7 := decide_f hm1; have g8 := bC_set; have g9 := eqn; refine GG10 ?_; clear g0 g1 g2 g3 g4 g5 g6 g7 g8 g9)
              refine ⟨d.length - (0 + 1), by omega, 0 + 1, _, _, _, by omega, rfl, rfl, hL3, hMk2, .inr ⟨j1, j2, hj, rfl, rfl, rfl⟩, ?_⟩
              simp [Kp, Env.get, hlast]
            · obtain ⟨x', hx'⟩ : ∃ x, d[q']? = some x := ⟨d[q']'(by omega), List.getElem?_eq_getElem _⟩
              obtain ⟨j', a', hqa', _, rfl⟩ := (hD1.mem x').1 (.inl (List.mem_of_getElem? hx'))
              have hkl : klt (ekey (((slotN a' w : Nat) : Int), ((j' : Nat) : Int), ((j' : Nat) : Int))) (ekey (((slotN a w : Nat) : Int), ((j : Nat) : Int), ((j : Nat) : Int))) := by
                obtain ⟨hl1, e1⟩ := List.getElem?_eq_some_iff.1 hx'
                obtain ⟨hl2, e2⟩ := List.getElem?_eq_some_iff.1 hx
                have := List.pairwise_iff_getElem.1 hD1.sorted q' (q' + 1) hl1 hl2 (by omega)
                rw [e1, e2] at this; exact this
              have ha3 := hqs a' (List.mem_of_getElem? hqa')
              have hj'lt := (List.getElem?_eq_some_iff.1 hqa').1
              have hga' := nC_get hqa'
              have hlv : lastV d (q' + 1) = ((j' : Nat) : Int) := by simp [lastV, hx']
              have hm1 : (((j' : Nat) : Int) ≥ 0) := by omega
              simp only [klt, ekey] at hkl
              rw [hlv]
              (have g0 := decide_f hge; have g1 := decide_f hgt; have g2 := ga; have g3 := gb; have g4 := hga; have g5 := hgb; have g6 := hbl; have g7 := decide_t hm1; have g8 := bC_set; refine GN9 ?_; clear g0 g1 g2 g3 g4 g5 g6 g7 g8)
              refine ei_dregD ?_
              repeat (first
    | ((with_reducible apply RunD.op0); (· rfl); (· rfl); (· (simp only [go_sem, Int.reduceBEq, Int.reduceBNe, Int.reduceLT, Int.reduceLE, Int.reduceAdd, Int.reduceSub, Int.reduceToNat, reduceIte, Nat.reduceEqDiff, Nat.reduceAdd, Nat.reduceMul, Nat.reduceLeDiff, Nat.reduceSub, reduceCtorEq, gc, hga, hga']; (try simp (disch := omega) only [OM, mn_lo, mn_hi, mx_lo, mx_hi, if_yes, if_no, Option.map_some, gc, hga, hga']); (try with_reducible exact rfl)))) | ((with_reducible apply RunD.op1); (· rfl); (· rfl); (· (simp only [go_sem, Int.reduceBEq, Int.reduceBNe, Int.reduceLT, Int.reduceLE, Int.reduceAdd, Int.reduceSub, Int.reduceToNat, reduceIte, Nat.reduceEqDiff, Nat.reduceAdd, Nat.reduceMul, Nat.reduceLeDiff, Nat.reduceSub, reduceCtorEq, gc, hga, hga']; (try simp (disch := omega) only [OM, mn_lo, mn_hi, mx_lo, mx_hi, if_yes, if_no, Option.map_some, gc, hga, hga']); (try with_reducible exact rfl)))) | (with_reducible apply RunD.nil))
              ((with_reducible apply RunD.call); (· rfl); (· (simp only [go_sem, reduceIte, Nat.reduceEqDiff]; (try with_reducible exact rfl))); (· (simp only [go_sem, reduceIte, Nat.reduceEqDiff]; (try with_reducible exact rfl))))
              refine (slot_ok a' w ha3 (by omega) (by omega) _).mono ?_
              rintro v H' ⟨rfl, rfl⟩
              refine ⟨?_, ?_⟩
              · (repeat (first | exact recheck_nil | (refine rc_in (by decide) ?_) | (refine rc_now (by (simp only [go_sem, Int.reduceBEq, Int.reduceBNe, Int.reduceLT, Int.reduceLE, Int.reduceAdd, Int.reduceSub, Int.reduceToNat, reduceIte, Nat.reduceEqDiff, Nat.reduceAdd, Nat.reduceMul, Nat.reduceLeDiff, Nat.reduceSub, reduceCtorEq, gc, hga, hga']; (try simp (disch := omega) only [OM, mn_lo, mn_hi, mx_lo, mx_hi, if_yes, if_no, Option.map_some, gc, hga, hga']); (try with_reducible exact rfl))) ?_)))
              repeat (first
    | ((with_reducible apply RunD.op0); (· rfl); (· rfl); (· (simp only [go_sem, Int.reduceBEq, Int.reduceBNe, Int.reduceLT, Int.reduceLE, Int.reduceAdd, Int.reduceSub, Int.reduceToNat, reduceIte, Nat.reduceEqDiff, Nat.reduceAdd, Nat.reduceMul, Nat.reduceLeDiff, Nat.reduceSub, reduceCtorEq, gc, hga]; (try simp (disch := omega) only [OM, mn_lo, mn_hi, mx_lo, mx_hi, if_yes, if_no, Option.map_some, gc, hga]); (try with_reducible exact rfl)))) | ((with_reducible apply RunD.op1); (· rfl); (· rfl); (· (simp only [go_sem, Int.reduceBEq, Int.reduceBNe, Int.reduceLT, Int.reduceLE, Int.reduceAdd, Int.reduceSub, Int.reduceToNat, reduceIte, Nat.reduceEqDiff, Nat.reduceAdd, Nat.reduceMul, Nat.reduceLeDiff, Nat.reduceSub, reduceCtorEq, gc, hga]; (try simp (disch := omega) only [OM, mn_lo, mn_hi, mx_lo, mx_hi, if_yes, if_no, Option.map_some, gc, hga]); (try with_reducible exact rfl)))) | (with_reducible apply RunD.nil))
              ((with_reducible apply RunD.call); (· rfl); (· (simp only [go_sem, reduceIte, Nat.reduceEqDiff]; (try with_reducible exact rfl))); (· (simp only [go_sem, reduceIte, Nat.reduceEqDiff]; (try with_reducible exact rfl))))
              refine (slot_ok a w ha2 (by omega) (by omega) _).mono ?_
              rintro v H' ⟨rfl, rfl⟩
              refine ⟨?_, ?_⟩
              · (repeat (first | exact recheck_nil | (refine rc_in (by decide) ?_) | (refine rc_now (by (simp only [go_sem, Int.reduceBEq, Int.reduceBNe, Int.reduceLT, Int.reduceLE, Int.reduceAdd, Int.reduceSub, Int.reduceToNat, reduceIte, Nat.reduceEqDiff, Nat.reduceAdd, Nat.reduceMul, Nat.reduceLeDiff, Nat.reduceSub, reduceCtorEq, gc, hga, hga']; (try simp (disch := omega) only [OM, mn_lo, mn_hi, mx_lo, mx_hi, if_yes, if_no, Option.map_some, gc, hga, hga']); (try with_reducible exact rfl))) ?_)))
              repeat (first
    | ((with_reducible apply RunD.op0); (· rfl); (· rfl); (· (simp only [go_sem, Int.reduceBEq, Int.reduceBNe, Int.reduceLT, Int.reduceLE, Int.reduceAdd, Int.reduceSub, Int.reduceToNat, reduceIte, Nat.reduceEqDiff, Nat.reduceAdd, Nat.reduceMul, Nat.reduceLeDiff, Nat.reduceSub, reduceCtorEq]; (try simp (disch := omega) only [OM, mn_lo, mn_hi, mx_lo, mx_hi, if_yes, if_no, Option.map_some]); (try with_reducible exact rfl)))) | ((with_reducible apply RunD.op1); (· rfl); (· rfl); (· (simp only [go_sem, Int.reduceBEq, Int.reduceBNe, Int.reduceLT, Int.reduceLE, Int.reduceAdd, Int.reduceSub, Int.reduceToNat, reduceIte, Nat.reduceEqDiff, Nat.reduceAdd, Nat.reduceMul, Nat.reduceLeDiff, Nat.reduceSub, reduceCtorEq]; (try simp (disch := omega) only [OM, mn_lo, mn_hi, mx_lo, mx_hi, if_yes, if_no, Option.map_some]); (try with_reducible exact rfl)))) | (with_reducible apply RunD.nil))
              have hs1 : ¬ (((slotN a' w : Nat) : Int) > ((slotN a w : Nat) : Int)) := by omega
              by_cases hse : slotN a' w = slotN a w
              · have hse2 : (((slotN a' w : Nat) : Int) == ((slotN a w : Nat) : Int)) = true := by rw [hse]; exact beq_self_eq_true _
                have hjj : ¬ (((j' : Nat) : Int) > ((j : Nat) : Int)) := by omega
                (have g0 := decide_f hs1; have g1 := hse2; have g2 := decide_f hjj; have g3 := eqn; refine GG4 ?_; clear g0 g1 g2 g3)
                refine ⟨d.length - (q' + 1 + 1), by omega, q' + 1 + 1, _, _, _, by omega, rfl, rfl, hL3, hMk2, .inr ⟨j1, j2, hj, rfl, rfl, rfl⟩, ?_⟩
                simp [Kp, Env.get, hlast]
              · have hse2 : (((slotN a' w : Nat) : Int) == ((slotN a w : Nat) : Int)) = false := beq_false_of_ne (by omega)
                (have g0 := decide_f hs1; have g1 := hse2; have g2 := eqn; refine GG3 ?_; clear g0 g1 g2)
                refine ⟨d.length - (q' + 1 + 1), by omega, q' + 1 + 1, _, _, _, by omega, rfl, rfl, hL3, hMk2, .inr ⟨j1, j2, hj, rfl, rfl, rfl⟩, ?_⟩
                simp [Kp, Env.get, hlast]
end Go.Proofs.YtmdilnelogechaaDoor.IR
