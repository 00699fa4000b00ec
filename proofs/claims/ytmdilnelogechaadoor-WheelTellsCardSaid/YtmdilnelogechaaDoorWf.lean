/- This text of a proof shows: what Advance of a wheel comes to. -/
import Derived.Test.YtmdilnelogechaaDoorGg
import Derived.Test.YtmdilnelogechaaDoorWe
import Derived.Test.YtmdilnelogechaaDoorSh
import Derived.Test.YtmdilnelogechaaDoorGk
set_option linter.unusedVariables false
set_option linter.unusedSimpArgs false
set_option linter.constructorNameAsVariable false
namespace Go.Proofs.YtmdilnelogechaaDoor.IR
open Go Go.Proofs.YtmdilnelogechaaDoor.Ev Go.Proofs.YtmdilnelogechaaDoor.Ev.Rb Go.Proofs.YtmdilnelogechaaDoor.Ev.Wh Go.Proofs.YtmdilnelogechaaDoor.Ext Go.Proofs.YtmdilnelogechaaDoorW.PrintWords
set_option linter.unusedSimpArgs false
set_option linter.unusedVariables false
set_option maxHeartbeats 4000000
attribute [local go_sem] skipV nc0 nc1 nc2 nc3 bne_self_eq_false decide_true decide_false IOp.step Opd.ev Env.get initEnv Val.cells? Val.one List.all_cons List.all_nil Bool.and_true Bool.and_self Bool.true_and bin ints eqv Val.kindNo lenNo_s lenNo_nils lenNo_sl lenNo_nilm lenNo_m lenOf_s lenOf_nils lenOf_sl lenOf_nilm unary partsOf padTo List.foldl_cons List.foldl_nil wr_nil wr_step wr_zero List.set_cons_zero List.set_cons_succ List.map_cons List.map_nil z1 z2 Nat.succ_ne_zero List.length_cons List.length_nil List.cons_append List.nil_append List.append_nil List.getElem?_cons_zero List.getElem?_cons_succ List.getElem?_nil Option.map_some Option.map_none Nat.zero_add Nat.add_zero List.drop_zero List.drop_succ_cons List.take_succ_cons List.take_zero List.take_nil and_self and_true true_and Nat.le_refl Bool.not_true Bool.not_false Option.getD_some window Val.slen bnd resV resL RV.val Bool.false_eq_true BEq.rfl Bool.true_beq Bool.false_beq beq_true beq_false mk_one ite_true ite_false eqc ceqs ceq NOp.step isK eq_self
attribute [local go_sem] nat_toNat mxM mnM getC getC2 setC wr1 Nat.mul_one wC
attribute [local go_sem high] len7 get7 set7
theorem sortN_ok (H : Heap) : SoundCall Tryd.prog 32 [.nils, (.fn (.func 33) [] [])] H (fun v H' => v = .tup [] ∧ H' = H) := by
  refine (sound_func Tryd.func32 c32 rfl (Nat.le_refl _) ?_)
  simp only [e32, s32]
  refine GG0 ?_
  (first | ((with_reducible first | apply RunP.call | apply Run.call | apply Run.call0); iterate 2 (· (simp only [go_sem, reduceIte, Nat.reduceEqDiff]; (try with_reducible exact rfl)))) | ((with_reducible first | apply Run.callY | apply RunP.callY); iterate 3 (· (simp only [go_sem, reduceIte, Nat.reduceEqDiff]; (try with_reducible exact rfl)))))
  refine (len_ok (n := 0) (by omega) _).mono ?_
  rintro v H' ⟨rfl, rfl⟩
  (first | refine And.intro rfl ?_ | refine And.intro trivial ?_ | skip)
  refine GG0 ?_
  (first | ((with_reducible first | apply RunP.call | apply Run.call | apply Run.call0); iterate 2 (· (simp only [go_sem, reduceIte, Nat.reduceEqDiff]; (try with_reducible exact rfl)))) | ((with_reducible first | apply Run.callY | apply RunP.callY); iterate 3 (· (simp only [go_sem, reduceIte, Nat.reduceEqDiff]; (try with_reducible exact rfl)))))
  refine (sound_run ft5_ok ext_ok rfl rfl nil_run _).mono ?_
  rintro v H' ⟨rfl, rfl⟩
  (first | refine And.intro rfl ?_ | refine And.intro trivial ?_ | skip)
  refine GG0 ?_
  exact ⟨rfl, rfl⟩
/-- The last slot that there is; where a thing of a slot would stand. -/
def hiC (S c : Nat) : Nat := satN (c + (S - 1))
def stC (S c : Nat) (x : Int) : Nat := (min (max x c) (satN (c + (S - 1)) : Nat)).toNat
theorem stN_eq (s : Ws) (x : Int) : stN s x = stC s.S s.c x := rfl
/-- A wheel, what stands in it and where: T. -/
structure WT (s : Ws) (T : Tl) : Prop where
  rt : RT s.S s.c (hiC s.S s.c) s.sl T
  len : T.length = s.wt
  ty : ∀ y ∈ T, 0 ≤ y.1.1 ∧ y.1.1 ≤ 18446744073709551615
  keys : (T.map fun y => ekey y.1).Nodup
  lt : ∀ y ∈ T, y.1.2.1 < (s.put : Nat)
  sum : s.wt + s.due.length ≤ 65536
def vs (l : List Th) : List Int := l.map fun x => x.2.2
/-- What is put in again: where it stands then. -/
def again (S c : Nat) (l : List Th) : Tl := l.map fun x => (x, stC S c x.1)
def dueL (t : Nat) (l : List Th) : List Th := l.filter fun x => x.1 ≤ (t : Nat)
def farL (t : Nat) (l : List Th) : List Th := l.filter fun x => (t : Nat) < x.1
theorem due_far (t : Nat) (l : List Th) : (dueL t l).length + (farL t l).length = l.length := by
  induction l with
  | nil => rfl
  | cons x l ih =>
    unfold dueL farL at *
    simp only [List.filter_cons]
    by_cases h : x.1 ≤ (t : Nat)
    · have h2 : ¬ ((t : Nat) : Int) < x.1 := by omega
      simp [h, h2]; omega
    · have h2 : ((t : Nat) : Int) < x.1 := by omega
      simp [h, h2]; omega
/-- The wheel behind an Advance to the slot t: l came out, in order. -/
structure AdvP (s : Ws) (T : Tl) (t : Nat) (l : List Th) (s' : Ws) : Prop where
  same : s'.S = s.S ∧ s'.w = s.w ∧ s'.c = t ∧ s'.room = s.room ∧ s'.put = s.put
  wt : s'.wt + (dueL t l).length = s.wt
  due : s'.due = s.due ++ vs (dueL t l)
  wT : WT s' ((T.filter fun y => t < y.2) ++ again s.S t (farL t l))
def AdvI (s : Ws) (J : Jl) (T0 : Tl) (t j : Nat) (l : List Th) (n : Nat) (ρ : Env) (H : Heap) : Prop :=
  ∃ (i : Nat) (s' : Ws), i ≤ l.length ∧ n = l.length - i ∧ WH s' ((j, .rw (thC l)) :: J) H ∧ s'.S = s.S ∧ s'.w = s.w ∧ s'.c = t ∧ s'.room = s.room ∧ s'.put = s.put ∧ s'.wt = s.wt ∧ s'.due = s.due ++ vs (dueL t (l.take i)) ∧
    RT s.S t (hiC s.S t) s'.sl (T0 ++ again s.S t (farL t (l.take i))) ∧
    Kp [(0, .p 0 0), (5, .i .u64 (t : Nat)), (7, .i .i64 ((dueL t (l.take i)).length : Nat)), (32, .sl (j + 7) 0 l.length 3), (33, .i .i64 (l.length : Nat)), (34, .i .i64 (i : Nat))] ρ
theorem stC_le (S c : Nat) (x : Int) : stC S c x ≤ hiC S c := by unfold stC hiC; omega
theorem stC_ge (S c : Nat) (x : Int) (h : c ≤ 18446744073709551615) : c ≤ stC S c x := by unfold stC satN; omega
theorem stC_lt (S c : Nat) (x : Int) (h : 1 ≤ S) : stC S c x < c + S := by unfold stC satN; omega
theorem snoc_take {l : List Th} {i : Nat} {x : Th} (h : l[i]? = some x) : l.take (i + 1) = l.take i ++ [x] := by
  rw [List.take_add_one, h]; rfl
theorem due_snoc (t : Nat) (l : List Th) (x : Th) : dueL t (l ++ [x]) = dueL t l ++ (if x.1 ≤ (t : Nat) then [x] else []) := by
  unfold dueL; rw [List.filter_append]; congr 1; by_cases h : x.1 ≤ (t : Nat) <;> simp [h]
theorem far_snoc (t : Nat) (l : List Th) (x : Th) : farL t (l ++ [x]) = farL t l ++ (if ((t : Nat) : Int) < x.1 then [x] else []) := by
  unfold farL; rw [List.filter_append]; congr 1; by_cases h : ((t : Nat) : Int) < x.1 <;> simp [h]
theorem split_perm (t : Nat) (T : Tl) : T.Perm ((T.filter fun y => y.2 ≤ t) ++ T.filter fun y => t < y.2) := by
  have := filter_two (l := T) (p := fun y => decide (y.2 ≤ t)) (q := fun y => decide (t < y.2)) (r := fun _ => true) (fun x _ => by
    constructor
    · rw [Bool.eq_iff_iff]; simp; omega
    · simp)
  rwa [List.filter_eq_self.2 fun _ _ => rfl] at this
theorem WT.done {s s' : Ws} {T : Tl} (hT : WT s T) {t : Nat} {l : List Th} (hp : l.Perm ((T.filter fun y => y.2 ≤ t).map (·.1))) (h1 : s'.S = s.S) (h2 : s'.c = t) (h3 : s'.wt + (dueL t l).length = s.wt) (h4 : s'.due = s.due ++ vs (dueL t l)) (h5 : s'.put = s.put)
    (hr : RT s.S t (hiC s.S t) s'.sl ((T.filter fun y => t < y.2) ++ again s.S t (farL t l))) : WT s' ((T.filter fun y => t < y.2) ++ again s.S t (farL t l)) := by
  have hdf := due_far t l
  have hsp := split_perm t T
  have hl := hp.length_eq
  rw [List.length_map] at hl
  have hTl := hsp.length_eq
  rw [List.length_append, hT.len] at hTl
  have hmem : ∀ x ∈ l, ∃ y ∈ T, y.1 = x := fun x hx => by
    obtain ⟨y, hy, e⟩ := List.mem_map.1 (hp.subset hx)
    exact ⟨y, (List.mem_filter.1 hy).1, e⟩
  refine ⟨by rw [h1, h2]; exact hr, ?_, fun y hy => ?_, ?_, fun y hy => ?_, ?_⟩
  · simp only [List.length_append, again, List.length_map]; omega
  · rcases List.mem_append.1 hy with hy | hy
    · exact hT.ty y (List.mem_filter.1 hy).1
    · obtain ⟨x, hx, rfl⟩ := List.mem_map.1 hy
      obtain ⟨z, hz, e⟩ := hmem x (List.mem_filter.1 hx).1
      have := hT.ty z hz
      rw [e] at this; exact this
  · have hk := (hsp.map fun y => ekey y.1).nodup_iff.1 hT.keys
    rw [List.map_append] at hk
    have e1 : ((T.filter fun y => decide (y.2 ≤ t)).map fun y => ekey y.1) = ((T.filter fun y => decide (y.2 ≤ t)).map (·.1)).map ekey := by rw [List.map_map]; rfl
    rw [e1] at hk
    have hk2 := ((hp.map ekey).append_right ((T.filter fun y => decide (t < y.2)).map fun y => ekey y.1)).nodup_iff.2 hk
    rw [List.map_append]
    have e2 : (again s.S t (farL t l)).map (fun y => ekey y.1) = (farL t l).map ekey := by simp [again, List.map_map]
    rw [e2]
    refine (List.perm_append_comm.nodup_iff).1 ?_
    refine List.Nodup.sublist ?_ hk2
    exact (List.filter_sublist.map _).append (List.Sublist.refl _)
  · rw [h5]
    rcases List.mem_append.1 hy with hy | hy
    · exact hT.lt y (List.mem_filter.1 hy).1
    · obtain ⟨x, hx, rfl⟩ := List.mem_map.1 hy
      obtain ⟨z, hz, e⟩ := hmem x (List.mem_filter.1 hx).1
      have := hT.lt z hz
      rw [e] at this; exact this
  · rw [h4, List.length_append]
    have := hT.sum
    simp only [vs, List.length_map]; omega
theorem hi_mono {c t S : Nat} (h : c ≤ t) : satN (c + (S - 1)) ≤ satN (t + (S - 1)) := by unfold satN; omega
theorem rtcut {s : Ws} {T : Tl} (hT : WT s T) {t many : Nat} (ht1 : s.c ≤ t) (hS0 : 0 < s.S) (hm1 : many ≤ s.S) (hfg : T.filter (fun y => decide (s.c + many ≤ y.2)) = T.filter (fun y => decide (t < y.2)))
    (hcut : ∀ q, q < s.S → (Wh.cut s.S s.c s.sl many q).Perm (((T.filter fun y => s.c + many ≤ y.2).filter fun y => y.2 % s.S = q).map (·.1))) :
    RT s.S t (hiC s.S t) (Wh.cut s.S s.c s.sl many) ((T.filter fun y => t < y.2) ++ again s.S t (farL t [])) := by
  have e : again s.S t (farL t []) = [] := rfl
  rw [e, List.append_nil]
  refine ⟨fun q hq => ?_, fun y hy => ?_, fun y hy => ?_⟩
  · have := hcut q hq
    rwa [hfg] at this
  · have := (List.mem_filter.1 hy).2
    simp at this; omega
  · have h1 := hT.rt.hi y (List.mem_filter.1 hy).1
    have := hi_mono (S := s.S) ht1
    unfold hiC at *
    omega
theorem adv_c (s : Ws) (J : Jl) (H : Heap) (hH : WH s J H) (T : Tl) (hT : WT s T) (now : Nat) (hnow : now ≤ 18446744073709551615) (hn : s.wt < 128) :
    SoundCall Tryd.prog 11 [.p 0 0, .i .u64 (now : Nat)] H (fun v H' => ∃ (l : List Th) (s' : Ws), l.Perm ((T.filter fun y => y.2 ≤ max s.c (now / s.w)).map (·.1)) ∧ Sorted l ∧ v = .i .i64 ((dueL (max s.c (now / s.w)) l).length : Nat) ∧ WH s' J H' ∧ AdvP s T (max s.c (now / s.w)) l s') := by
  have hH0 := hH
  obtain ⟨b, dv, cells, D, tag, rfl, hD, hb, hm, hk⟩ := hH
  obtain ⟨k1, k2, k3, k4, k5, k6, k7, k8, k9⟩ := hk
  refine (sound_func Tryd.func11 c11 rfl (Nat.le_refl _) ?_)
  simp only [e11, s11, WHb]
  generalize (AObj.rw (wC s.S s.w s.c dv s.room s.wt s.put) :: AObj.rw cells :: AObj.rw (b.hd 3) :: AObj.rw (b.fl 4 5 6) :: b.o2 :: b.o3 :: b.o4 :: D).length = m0
  have e1 : ((now : Nat) : Int).tdiv ((s.w : Nat) : Int) = ((now / s.w : Nat) : Int) := by rw [← Int.ofNat_tdiv]
  have hdl : now / s.w ≤ now := Nat.div_le_self _ _
  generalize now / s.w = q at e1 hdl ⊢
  have e2 : max ((s.c : Nat) : Int) ((q : Nat) : Int) = ((max s.c q : Nat) : Int) := by omega
  have hw0 : ¬ ((s.w : Nat) : Int) = 0 := by omega
  refine GG0 ?_
  (first | ((with_reducible first | apply RunP.call | apply Run.call | apply Run.call0); iterate 2 (· (simp only [go_sem, reduceIte, Nat.reduceEqDiff]; (try with_reducible exact rfl)))) | ((with_reducible first | apply Run.callY | apply RunP.callY); iterate 3 (· (simp only [go_sem, reduceIte, Nat.reduceEqDiff]; (try with_reducible exact rfl)))))
  refine (wnone _ _ _ _ _ _ _ _).mono ?_
  rintro v H' ⟨rfl, rfl⟩
  (have g0 := e1; have g1 := e2; refine GG2 ?_; clear g0 g1)
  obtain ⟨t, ht⟩ : ∃ t, t = max s.c q := ⟨_, rfl⟩
  have ht1 : s.c ≤ t := by omega
  have ht2 : t ≤ 18446744073709551615 := by omega
  rw [← ht]
  clear e2
  have hS0 : 0 < s.S := by omega
  have hall := (hT.rt.perm hS0).length_eq
  rw [List.length_map, hT.len] at hall
  obtain ⟨many, hmany⟩ : ∃ many, many = min (t - s.c) (s.S - 1) + 1 := ⟨_, rfl⟩
  have hm1 : many ≤ s.S := by omega
  have hout := hT.rt.out hS0 hm1
  have hcut := fun q hq => hT.rt.cuts (n := many) (q := q) hq hm1
  have hfe : T.filter (fun y => decide (y.2 < s.c + many)) = T.filter (fun y => decide (y.2 ≤ t)) := List.filter_congr fun y hy => by
    have h1 := hT.rt.hi y hy
    have h2 := hT.rt.lo y hy
    rw [Bool.eq_iff_iff]; simp only [decide_eq_true_eq]; omega
  have hfg : T.filter (fun y => decide (s.c + many ≤ y.2)) = T.filter (fun y => decide (t < y.2)) := List.filter_congr fun y hy => by
    have h1 := hT.rt.hi y hy
    have h2 := hT.rt.lo y hy
    rw [Bool.eq_iff_iff]; simp only [decide_eq_true_eq]; omega
  rw [hfe] at hout
  (first | ((with_reducible first | apply RunP.call | apply Run.call | apply Run.call0); iterate 2 (· (simp only [go_sem, reduceIte, Nat.reduceEqDiff]; (try with_reducible exact rfl)))) | ((with_reducible first | apply Run.callY | apply RunP.callY); iterate 3 (· (simp only [go_sem, reduceIte, Nat.reduceEqDiff]; (try with_reducible exact rfl)))))
  refine (out_c s J _ hH0 t ht1 ht2 (by omega)).mono ?_
  rw [← hmany]
  rintro v H' ⟨J', hlv, hW⟩
  clear hH0 hD hb hm k8
  obtain ⟨b, dv, cells, D, tag, rfl, hD, hb, hm, hk⟩ := hW
  obtain ⟨_, _, _, _, _, _, _, k8, _⟩ := hk
  simp only [WHb]
  generalize outL s.S s.c s.sl many = l0 at hlv hout
  have hl0 : l0.length ≤ s.wt := by
    have h1 := hout.length_eq
    have h2 := List.length_filter_le (fun y : Th × Nat => decide (y.2 ≤ t)) T
    rw [List.length_map] at h1
    have := hT.len; omega
  have hdls : ∀ l' : List Th, l'.length ≤ s.wt → (dueL t l').length ≤ s.wt := fun l' h => Nat.le_trans (List.length_filter_le _ _) h
  rcases hlv with ⟨rfl, rfl, rfl⟩ | ⟨jl, rfl, rfl, hJn⟩
  · have hfn : T.filter (fun y => decide (y.2 ≤ t)) = [] := by
      have := hout.length_eq
      rw [List.length_map] at this
      exact List.length_eq_zero_iff.1 this.symm
    refine GG0 ?_
    (first | ((with_reducible first | apply RunP.call | apply Run.call | apply Run.call0); iterate 2 (· (simp only [go_sem, reduceIte, Nat.reduceEqDiff]; (try with_reducible exact rfl)))) | ((with_reducible first | apply Run.callY | apply RunP.callY); iterate 3 (· (simp only [go_sem, reduceIte, Nat.reduceEqDiff]; (try with_reducible exact rfl)))))
    refine (sortN_ok _).mono ?_
    rintro v H' ⟨rfl, rfl⟩
    refine GG0 ?_
    have hWX : WH { s with c := t, sl := Wh.cut s.S s.c s.sl many } J' (.rw (wC s.S s.w t dv s.room s.wt s.put) :: .rw cells :: .rw (b.hd 3) :: .rw (b.fl 4 5 6) :: b.o2 :: b.o3 :: b.o4 :: D) := ⟨b, dv, cells, D, tag, rfl, ⟨hD.len, hD.cell, hD.duev, hD.keep, hD.flat⟩, hb, hm, ⟨k1, k2, k3, k4, ht2, k6, k7, k8, k9⟩⟩
    refine ei_loop (fun n ρ H => n = 0 ∧ WH { s with c := t, sl := Wh.cut s.S s.c s.sl many } J' H ∧ Kp [(0, .p 0 0), (7, .i .i64 0), (32, .nils), (33, .i .i64 0), (34, .i .i64 0)] ρ) (n := 0) ?_ ?_
    · exact ⟨rfl, hWX, by simp [Kp, Env.get, initEnv]⟩
    · clear hWX hD hb hm
      rintro n ρ H ⟨rfl, hW, hρ⟩
      refine ei_few _ hρ ?_
      clear hρ
      obtain ⟨b, dv, cells, D, tag, rfl, hD, hb, hm, hk⟩ := hW
      simp only [WHb]
      refine GG0 ?_
      have hT0 : T.filter (fun y => decide (t < y.2)) = T := List.filter_eq_self.2 fun y hy => by
        have := List.filter_eq_nil_iff.1 hfn y hy
        simp at this ⊢; omega
      have hrt : RT s.S t (hiC s.S t) (Wh.cut s.S s.c s.sl many) ((T.filter fun y => t < y.2) ++ again s.S t (farL t [])) := rtcut hT ht1 hS0 hm1 hfg hcut
      refine ⟨[], { s with c := t, sl := Wh.cut s.S s.c s.sl many }, ?_, .nil, rfl, ⟨b, dv, cells, D, tag, rfl, hD, hb, hm, hk⟩, ⟨⟨rfl, rfl, rfl, rfl, rfl⟩, rfl, by simp [dueL, vs], WT.done (s' := { s with c := t, sl := Wh.cut s.S s.c s.sl many }) hT (l := []) (by rw [hfn]; exact .refl _) rfl rfl rfl (by simp [dueL, vs]) rfl hrt⟩⟩
      rw [hfn]; exact .refl _
  · refine GG0 ?_
    have hkd : (l0.map ekey).Nodup := by
      have h1 : ((T.filter fun y => decide (y.2 ≤ t)).map (·.1)).map ekey = (T.filter fun y => decide (y.2 ≤ t)).map fun y => ekey y.1 := by rw [List.map_map]; rfl
      refine ((hout.map ekey).nodup_iff).2 ?_
      rw [h1]
      exact List.Nodup.sublist (List.filter_sublist.map _) hT.keys
    have hsort := sortl_c l0 gNew (.inr rfl) (fun h => absurd h gNew_ne) (by omega) hkd
    simp only [gV_new, gO_new] at hsort
    obtain ⟨hjt, hjo⟩ := hD.keep (jl, .rw (thC l0)) (by simp)
    (first | ((with_reducible first | apply RunP.call | apply Run.call | apply Run.call0); iterate 2 (· (simp only [go_sem, reduceIte, Nat.reduceEqDiff]; (try with_reducible exact rfl)))) | ((with_reducible first | apply Run.callY | apply RunP.callY); iterate 3 (· (simp only [go_sem, reduceIte, Nat.reduceEqDiff]; (try with_reducible exact rfl)))))
    refine sound_use hsort [jl + 7] rfl (by simp) ?_ ?_ ?_ ?_ ?_; iterate 4 (· simp [embAt, nm, rn_rw, wfAll, wn_rw, wfL, Val.wf, renL, Val.ren, get7, hjo, thC_ren, thC_wf])
    rintro v C' ⟨l, hp, hso, rfl, rfl⟩
    simp only [merge, place, after, nm, MG, Val.ren, renL, rn_rw, rn_ro, rn_map, rn_iter, rn_dead, reduceIte, Nat.reduceLT, Nat.reduceAdd, Nat.reduceSub, Nat.lt_irrefl, Nat.zero_lt_one, Nat.zero_lt_succ, gO_new, thC_ren, set7]
    refine GG0 ?_
    have hlen := hp.length_eq
    rw [← hlen]
    replace hout := hp.trans hout
    have hWX : WH { s with c := t, sl := Wh.cut s.S s.c s.sl many } ((jl, .rw (thC l)) :: J) (.rw (wC s.S s.w t dv s.room s.wt s.put) :: .rw cells :: .rw (b.hd 3) :: .rw (b.fl 4 5 6) :: b.o2 :: b.o3 :: b.o4 :: D.set jl (.rw (thC l))) :=
      ⟨b, dv, cells, _, tag, rfl, (show WD { s with c := t, sl := Wh.cut s.S s.c s.sl many } _ _ _ _ _ from ⟨hD.len, hD.cell, hD.duev, hD.keep, hD.flat⟩).setK (J' := (jl, .rw (thC l)) :: J) (o := .rw (thC l)) hjt (thC_wf 0 _) (get_lt hjo) (fun x hx => by
        rcases List.mem_cons.1 hx with rfl | hx
        · exact .inr rfl
        · exact .inl ⟨by simp [hx], hJn x hx⟩), hb, hm, ⟨k1, k2, k3, k4, ht2, k6, k7, k8, k9⟩⟩
    have hrt := rtcut hT ht1 hS0 hm1 hfg hcut
    refine ei_loop (AdvI s J (T.filter fun y => t < y.2) t jl l) (n := l.length) ?_ ?_
    · refine ⟨0, { s with c := t, sl := Wh.cut s.S s.c s.sl many }, Nat.zero_le _, rfl, hWX, rfl, rfl, rfl, rfl, rfl, rfl, by simp [dueL, vs], hrt, ?_⟩
      simp [Kp, Env.get, initEnv, dueL]
    · clear hWX hrt hD hb hm hjo hjt hsort
      rintro n ρ H ⟨i, s', hi, rfl, hW, h1, h2, h3, h4, h5, h6, h7, hr, hρ⟩
      refine ei_few _ hρ ?_
      clear hρ
      obtain ⟨b, dv, cells, D, tag, rfl, hD, hb, hm, hk⟩ := hW
      obtain ⟨hjt, hjo⟩ := hD.keep (jl, .rw (thC l)) (by simp)
      simp only [WHb]
      by_cases hil : i = l.length
      · subst hil
        rw [List.take_length] at h7 hr ⊢
        have hz : ¬ ((l.length : Nat) : Int) < ((l.length : Nat) : Int) := by omega
        have hdl2 := hdls l (by omega)
        have e3 : ((s'.wt : Nat) : Int) - (((dueL t l).length : Nat) : Int) = ((s.wt - (dueL t l).length : Nat) : Int) := by omega
        (have g0 := decide_f hz; have g1 := e3; refine GG2 ?_; clear g0 g1)
        obtain ⟨g1, g2, g3, g4, g5, g6, g7, g8, g9⟩ := hk
        refine ⟨l, { s' with wt := s.wt - (dueL t l).length }, hout, hso, rfl, ⟨b, dv, cells, D, tag, rfl, ⟨hD.len, hD.cell, hD.duev, fun x hx => hD.keep x (by simp [hx]), hD.flat⟩, hb, hm, ⟨g1, g2, g3, g4, g5, g6, by show s.wt - _ ≤ _; omega, g8, g9⟩⟩, ⟨⟨h1, h2, h3, h4, h5⟩, by show s.wt - _ + _ = _; omega, h7, WT.done (s' := { s' with wt := s.wt - (dueL t l).length }) hT hout h1 h3 (by show s.wt - _ + _ = _; omega) h7 h5 hr⟩⟩
      · obtain ⟨x, hx⟩ : ∃ x, l[i]? = some x := ⟨l[i], List.getElem?_eq_getElem (by omega)⟩
        obtain ⟨hw1, hw2⟩ := thC_win hx
        have hz : ((i : Nat) : Int) < ((l.length : Nat) : Int) := by omega
        have e3 : ((i : Nat) : Int) + 1 = ((i + 1 : Nat) : Int) := rfl
        have hjo2 := getP (o := .rw [.i .u64 x.2.2, .i .u64 x.1, .i .i64 x.2.1]) hjo
        simp only [enT] at hw1
        (have g0 := decide_t hz; have g1 := hjo; have g2 := hw1; refine GG3 ?_; clear g0 g1 g2)
        have hxT : 0 ≤ x.1 ∧ x.1 ≤ 18446744073709551615 := by
          obtain ⟨y, hy, e⟩ := List.mem_map.1 (hout.subset (List.mem_of_getElem? hx))
          have := hT.ty y (List.mem_filter.1 hy).1
          rw [e] at this; exact this
        have hst : stP s' x.1 = stC s.S t x.1 % s.S := by unfold stP; rw [stN_eq, h1, h3]
        have hstS : stP s' x.1 < s.S := by rw [hst]; exact Nat.mod_lt _ hS0
        have hsn := snoc_take hx
        have hil2 : (s'.sl (stP s' x.1)).length ≤ 1000000 := by
          have a1 := (hr.slot _ hstS).length_eq
          rw [List.length_map] at a1
          have a2 := List.length_filter_le (fun y : Th × Nat => decide (y.2 % s.S = stP s' x.1)) ((T.filter fun y => t < y.2) ++ again s.S t (farL t (l.take i)))
          have a3 : (again s.S t (farL t (l.take i))).length ≤ l.length := by
            simp only [again, List.length_map, farL]
            exact Nat.le_trans (List.length_filter_le _ _) (by simp; omega)
          have a4 := List.length_filter_le (fun y : Th × Nat => decide (t < y.2)) T
          rw [List.length_append] at a2
          have := hT.len
          omega
        by_cases hfar : x.1 > (t : Nat)
        · (have g0 := decide_t hfar; refine GG1 ?_; clear g0)
          (first | ((with_reducible first | apply RunP.call | apply Run.call | apply Run.call0); iterate 2 (· (simp only [go_sem, reduceIte, Nat.reduceEqDiff]; (try with_reducible exact rfl)))) | ((with_reducible first | apply Run.callY | apply RunP.callY); iterate 3 (· (simp only [go_sem, reduceIte, Nat.reduceEqDiff]; (try with_reducible exact rfl)))))
          refine (stand_c s' ((jl, .rw (thC l)) :: J) _ ⟨b, dv, cells, _, _, rfl, hD.push (o := .rw [.i .u64 x.2.2, .i .u64 x.1, .i .i64 x.2.1]) rfl, hb, hm, hk⟩ x hxT hil2).mono ?_
          rintro v H' hW2
          (have g0 := e3; refine GG1 ?_; clear g0)
          have hdq : dueL t (l.take (i + 1)) = dueL t (l.take i) := by rw [hsn, due_snoc, if_neg (by omega), List.append_nil]
          have hfq : farL t (l.take (i + 1)) = farL t (l.take i) ++ [x] := by rw [hsn, far_snoc, if_pos hfar]
          refine ⟨l.length - (i + 1), by omega, i + 1, s'.add (stP s' x.1) x, by omega, rfl, hW2, h1, h2, h3, h4, h5, h6, by rw [hdq]; exact h7, ?_, ?_⟩
          · have ha := hr.add (x := x) (t := stC s.S t x.1) (stC_ge _ _ _ ht2) (stC_le _ _ _) (stC_lt _ _ _ (by omega))
            rw [hfq]
            have e4 : again s.S t (farL t (l.take i) ++ [x]) = again s.S t (farL t (l.take i)) ++ [(x, stC s.S t x.1)] := by simp [again]
            rw [e4, ← List.append_assoc]
            have e5 : (s'.add (stP s' x.1) x).sl = fun q => if q = stC s.S t x.1 % s.S then s'.sl (stC s.S t x.1 % s.S) ++ [x] else s'.sl q := by
              rw [← hst]; rfl
            rw [e5]; exact ha
          · simp [Kp, Env.get, hdq]
        · have hdq : dueL t (l.take (i + 1)) = dueL t (l.take i) ++ [x] := by rw [hsn, due_snoc, if_pos (by omega)]
          have hfq : farL t (l.take (i + 1)) = farL t (l.take i) := by rw [hsn, far_snoc, if_neg (by omega), List.append_nil]
          have e4 : (((dueL t (l.take i)).length : Nat) : Int) + 1 = (((dueL t (l.take i)).length + 1 : Nat) : Int) := rfl
          have hdl3 : s'.due.length ≤ 65536 := hk.8
          have hb9 : (dueL t (l.take i)).length ≤ l.length := Nat.le_trans (List.length_filter_le _ _) (by simp; omega)
          have hw := (hD.push (o := .rw [.i .u64 x.2.2, .i .u64 x.1, .i .i64 x.2.1]) rfl).push (o := .rw [.i .u64 x.2.2]) rfl
          have fin : ∀ H', WH { s' with due := s'.due ++ [x.2.2] } ((jl, .rw (thC l)) :: J) H' → ∀ ρ, Kp [(0, .p 0 0), (5, .i .u64 (t : Nat)), (7, .i .i64 ((dueL t (l.take i)).length + 1 : Nat)), (32, .sl (jl + 7) 0 l.length 3), (33, .i .i64 (l.length : Nat)), (34, .i .i64 (i + 1 : Nat))] ρ →
              ∃ k, k < l.length - i ∧ AdvI s J (T.filter fun y => t < y.2) t jl l k ρ H' := fun H' hW2 ρ hρ => by
            refine ⟨l.length - (i + 1), by omega, i + 1, { s' with due := s'.due ++ [x.2.2] }, by omega, rfl, hW2, h1, h2, h3, h4, h5, h6, ?_, by rw [hfq]; exact hr, ?_⟩
            · show s'.due ++ [x.2.2] = _
              rw [hdq, h7]; simp [vs]
            · rw [hdq, List.length_append]; exact hρ
          have hok2 : WOk { s' with due := s'.due ++ [x.2.2] } := by
            obtain ⟨g1, g2, g3, g4, g5, g6, g7, g8, g9⟩ := hk
            refine ⟨g1, g2, g3, g4, g5, g6, g7, ?_, g9⟩
            show (s'.due ++ [x.2.2]).length ≤ 65536
            rw [h7]
            have := hT.sum
            have hb1 : (dueL t (l.take i)).length + 1 ≤ l.length := by
              have := List.length_filter_le (fun x : Th => decide (x.1 ≤ (t : Nat))) (l.take (i + 1))
              have h9 : (dueL t (l.take (i + 1))).length ≤ (l.take (i + 1)).length := this
              rw [hdq, List.length_append, List.length_take] at h9
              simp at h9; omega
            simp only [List.length_append, vs, List.length_map, List.length_cons, List.length_nil]
            omega
          (have g0 := decide_f hfar; refine GN1 ?_; clear g0)
          refine ei_dregD ?_
          refine GD0 ?_
          ((apply RunD.al); (· rfl); (· rfl); (· (simp only [go_sem, Int.reduceBEq, Int.reduceBNe, Int.reduceLT, Int.reduceLE, Int.reduceAdd, Int.reduceSub, Int.reduceToNat, reduceIte, Nat.reduceEqDiff, Nat.reduceAdd, Nat.reduceMul, Nat.reduceLeDiff, Nat.reduceSub, reduceCtorEq]; (try simp (disch := omega) only [OM, mn_lo, mn_hi, mx_lo, mx_hi, if_yes, if_no, Option.map_some]); (try with_reducible exact rfl))))
          rcases hD.duev with ⟨rfl, he⟩ | ⟨jd, kd, hjd, rfl, hjdo⟩
          · refine RunD.app rfl rfl (appNil (j := (D ++ [AObj.rw [.i .u64 x.2.2, .i .u64 x.1, .i .i64 x.2.1]]).length + 7) (new := [.i .u64 x.2.2]) (by (simp only [go_sem, reduceIte, Nat.reduceEqDiff]; (try with_reducible exact rfl))) (by (simp only [go_sem, reduceIte, Nat.reduceEqDiff]; (try with_reducible exact rfl))) (by (simp only [go_sem, reduceIte, Nat.reduceEqDiff]; (try with_reducible exact rfl))) rfl (by omega)) ?_ ?_
            · exact GR0
            refine GD0 ?_
            ((apply RunD.st); (· rfl); (· rfl); (· (simp only [go_sem, Int.reduceBEq, Int.reduceBNe, Int.reduceLT, Int.reduceLE, Int.reduceAdd, Int.reduceSub, Int.reduceToNat, reduceIte, Nat.reduceEqDiff, Nat.reduceAdd, Nat.reduceMul, Nat.reduceLeDiff, Nat.reduceSub, reduceCtorEq]; (try simp (disch := omega) only [OM, mn_lo, mn_hi, mx_lo, mx_hi, if_yes, if_no, Option.map_some]); (try with_reducible exact rfl))))
            · exact GR0
            refine GD0 ?_
            (have g0 := e3; have g1 := e4; refine GG2 ?_; clear g0 g1)
            have hwd := hw.dues x.2.2 (.inl ⟨rfl, rfl⟩)
            have e6 : n64 (s'.due ++ [x.2.2]) = [.i .u64 x.2.2] := by rw [he]; rfl
            rw [e6] at hwd
            have e7 : s'.due.length = 0 := by rw [he]; rfl
            rw [e7] at hwd
            exact fin _ ⟨b, _, cells, _, _, rfl, hwd, hb, hm, hok2⟩ _ (by simp [Kp, Env.get])
          · have hjo3 := getP (o := .rw [.i .u64 x.2.2]) (getP (o := .rw [.i .u64 x.2.2, .i .u64 x.1, .i .i64 x.2.1]) hjdo)
            refine RunD.app rfl rfl (appOne (a := n64 kd) (id := jd + 7) (c := n64 s'.due) (n := s'.due.length) (j := (D ++ [AObj.rw [.i .u64 x.2.2, .i .u64 x.1, .i .i64 x.2.1]]).length + 7) (new := [.i .u64 x.2.2]) (by (simp only [go_sem, reduceIte, Nat.reduceEqDiff, n64_len]; (try with_reducible exact rfl))) (by (simp only [go_sem, reduceIte, Nat.reduceEqDiff, hjo3]; (try with_reducible exact rfl))) (by rw [n64_len, Nat.mul_one]) (by (simp only [go_sem, reduceIte, Nat.reduceEqDiff]; (try with_reducible exact rfl))) (by (simp only [go_sem, reduceIte, Nat.reduceEqDiff]; (try with_reducible exact rfl))) rfl (by omega)) ?_ ?_
            · exact GR0
            refine GD0 ?_
            ((apply RunD.st); (· rfl); (· rfl); (· (simp only [go_sem, Int.reduceBEq, Int.reduceBNe, Int.reduceLT, Int.reduceLE, Int.reduceAdd, Int.reduceSub, Int.reduceToNat, reduceIte, Nat.reduceEqDiff, Nat.reduceAdd, Nat.reduceMul, Nat.reduceLeDiff, Nat.reduceSub, reduceCtorEq]; (try simp (disch := omega) only [OM, mn_lo, mn_hi, mx_lo, mx_hi, if_yes, if_no, Option.map_some]); (try with_reducible exact rfl))))
            · exact GR0
            refine GD0 ?_
            (have g0 := e3; have g1 := e4; refine GG2 ?_; clear g0 g1)
            have hlt := get_lt hjdo
            have hne : jd ≠ D.length ∧ jd ≠ (D ++ [AObj.rw [.i .u64 x.2.2, .i .u64 x.1, .i .i64 x.2.1]]).length := by simp; omega
            have hwd := hw.dues x.2.2 (.inr ⟨jd, kd.length, by unfold tg; rw [if_neg hne.2, if_neg hne.1]; exact hjd, rfl, by simp; omega, rfl⟩)
            have e6 : n64 (s'.due ++ [x.2.2]) = n64 s'.due ++ [.i .u64 x.2.2] := by simp [n64]
            rw [e6] at hwd
            exact fin _ ⟨b, _, cells, _, _, rfl, hwd, hb, hm, hok2⟩ _ (by simp [Kp, Env.get])
end Go.Proofs.YtmdilnelogechaaDoor.IR
