/- This text of a proof shows: what Held of a wheel comes to; a wheel beside other objects; what the laws' first function comes to; a wheel's things behind Put and Take. -/
import Derived.Test.YtmdilnelogechaaDoorGg
import Derived.Test.YtmdilnelogechaaDoorWf
import Derived.Test.YtmdilnelogechaaDoorGk
set_option linter.unusedVariables false
set_option linter.unusedSimpArgs false
set_option linter.constructorNameAsVariable false
namespace Go.Proofs.YtmdilnelogechaaDoor.IR
open Go Go.Proofs.YtmdilnelogechaaDoor.Ev Go.Proofs.YtmdilnelogechaaDoor.Ev.Rb Go.Proofs.YtmdilnelogechaaDoor.Ev.Wh Go.Proofs.YtmdilnelogechaaDoor.Ext Go.Proofs.YtmdilnelogechaaDoorW.PrintWords
set_option linter.unusedSimpArgs false
set_option linter.unusedVariables false
set_option maxHeartbeats 4000000
attribute [local go_sem] skipV nc0 nc1 nc2 nc3 bne_self_eq_false decide_true decide_false IOp.step Opd.ev Env.get initEnv Val.cells? Val.one List.all_cons List.all_nil Bool.and_true Bool.and_self Bool.true_and bin ints eqv Val.kindNo lenNo_s lenNo_nils lenNo_sl lenNo_nilm lenNo_m lenOf_s lenOf_nils lenOf_sl lenOf_nilm unary partsOf padTo List.foldl_cons List.foldl_nil wr_nil wr_step wr_zero List.set_cons_zero List.set_cons_succ List.map_cons List.map_nil z1 z2 Nat.succ_ne_zero List.length_cons List.length_nil List.cons_append List.nil_append List.append_nil List.getElem?_cons_zero List.getElem?_cons_succ List.getElem?_nil Option.map_some Option.map_none Nat.zero_add Nat.add_zero List.drop_zero List.drop_succ_cons List.take_succ_cons List.take_zero List.take_nil and_self and_true true_and Nat.le_refl Bool.not_true Bool.not_false Option.getD_some window Val.slen bnd resV resL RV.val Bool.false_eq_true BEq.rfl Bool.true_beq Bool.false_beq beq_true beq_false mk_one ite_true ite_false eqc ceqs ceq NOp.step isK eq_self
attribute [local go_sem] nat_toNat mxM mnM getC getC2 setC wr1 Nat.mul_one wC
attribute [local go_sem high] len7 get7 set7
/-- How many stand in each slot, from the cursor on. -/
def hN (s : Ws) (d : Nat) : Nat := (s.sl ((s.c + d) % s.S)).length
def hC (s : Ws) (i : Nat) : List Val := (List.range i).map fun d => .i .i64 (hN s d : Nat)
theorem hC_succ (s : Ws) (i : Nat) : hC s (i + 1) = hC s i ++ [.i .i64 (hN s i : Nat)] := by simp [hC, List.range_succ]
theorem hC_len (s : Ws) (i : Nat) : (hC s i).length = i := by simp [hC]
theorem hC_wf (s : Ws) (m : Nat) : ∀ i, wfL m (hC s i) = true
  | 0 => rfl
  | i + 1 => by rw [hC_succ, wfL_append, hC_wf s m i]; rfl
def HdI (s : Ws) (J : Jl) (n : Nat) (ρ : Env) (H : Heap) : Prop :=
  ∃ (i : Nat) (vo : Val) (J' : Jl), i ≤ s.S ∧ n = s.S - i ∧ ((vo = .nils ∧ i = 0 ∧ J' = J) ∨ ∃ jo, vo = .sl (jo + 7) 0 i 1 ∧ J' = (jo, .rw (hC s i)) :: J ∧ ∀ x ∈ J, x.1 ≠ jo) ∧ WH s J' H ∧
    Kp [(0, .p 0 0), (3, vo), (11, .i .i64 (s.S : Nat)), (12, .i .i64 (i : Nat))] ρ
theorem held_c (s : Ws) (J : Jl) (H : Heap) (hH : WH s J H) (hl : ∀ p, p < s.S → (s.sl p).length ≤ 1000000) :
    SoundCall Tryd.prog 27 [.p 0 0] H (fun v H' => ∃ jo, v = .sl (jo + 7) 0 s.S 1 ∧ WH s ((jo, .rw (hC s s.S)) :: J) H') := by
  have hH0 := hH
  obtain ⟨b, dv, cells, D, tag, rfl, hD, hb, hm, hk⟩ := hH
  obtain ⟨k1, k2, k3, k4, k5, k6, k7, k8, k9⟩ := hk
  refine (sound_func Tryd.func27 c27 rfl (Nat.le_refl _) ?_)
  simp only [e27, s27, WHb]
  generalize (AObj.rw (wC s.S s.w s.c dv s.room s.wt s.put) :: AObj.rw cells :: AObj.rw (b.hd 3) :: AObj.rw (b.fl 4 5 6) :: b.o2 :: b.o3 :: b.o4 :: D).length = m0
  refine GG0 ?_
  (first | ((with_reducible first | apply RunP.call | apply Run.call | apply Run.call0); iterate 2 (· (simp only [go_sem, reduceIte, Nat.reduceEqDiff]; (try with_reducible exact rfl)))) | ((with_reducible first | apply Run.callY | apply RunP.callY); iterate 3 (· (simp only [go_sem, reduceIte, Nat.reduceEqDiff]; (try with_reducible exact rfl)))))
  refine (wnone _ _ _ _ _ _ _ _).mono ?_
  rintro v H' ⟨rfl, rfl⟩
  refine GG0 ?_
  refine ei_loop (HdI s J) (n := s.S) ?_ ?_
  · refine ⟨0, .nils, J, Nat.zero_le _, rfl, .inl ⟨rfl, rfl, rfl⟩, hH0, ?_⟩
    simp [Kp, Env.get, initEnv]
  · clear hH0 hD hb hm b dv cells D tag
    rintro n ρ H ⟨i, vo, J', hi, rfl, hvo, hW, hρ⟩
    refine ei_few _ hρ ?_
    clear hρ
    obtain ⟨b, dv, cells, D, tag, rfl, hD, hb, hm, hk⟩ := hW
    simp only [WHb]
    by_cases his : i = s.S
    · subst his
      have hz : ¬ ((s.S : Nat) : Int) < ((s.S : Nat) : Int) := by omega
      (have g0 := decide_f hz; refine GG1 ?_; clear g0)
      rcases hvo with ⟨_, h, _⟩ | ⟨jo, rfl, rfl, _⟩
      · omega
      · exact ⟨jo, rfl, b, dv, cells, D, tag, rfl, hD, hb, hm, hk⟩
    · have hz : ((i : Nat) : Int) < ((s.S : Nat) : Int) := by omega
      have e3 : ((i : Nat) : Int) + 1 = ((i + 1 : Nat) : Int) := rfl
      have hpS : (s.c + i) % s.S < s.S := Nat.mod_lt _ (by omega)
      have hcS : s.c % s.S < s.S := Nat.mod_lt _ (by omega)
      have e4 : (((s.c % s.S : Nat) : Int) + ((i : Nat) : Int)).tmod ((s.S : Nat) : Int) = (((s.c + i) % s.S : Nat) : Int) := by
        rw [show ((s.c % s.S : Nat) : Int) + ((i : Nat) : Int) = ((s.c % s.S + i : Nat) : Int) from rfl, tmodN _ _ (by omega) (by omega), Int.toNat_natCast, ← mod_add2]
      have hcl := hD.len
      have hnl := hl _ hpS
      have hval : ∃ u, cells[(s.c + i) % s.S]? = some u ∧ Val.lenNo u = 2 ∧ ∀ H, lenOf u H = some (.i .i64 (hN s i : Nat)) := by
        rcases hD.cell _ hpS with ⟨h1, h2⟩ | ⟨j, _, h2, _⟩
        · exact ⟨_, h2, rfl, fun H => by unfold hN; rw [h1]; rfl⟩
        · exact ⟨_, h2, rfl, fun H => rfl⟩
      obtain ⟨u, hu1, hu2, hu3⟩ := hval
      have hnl2 : hN s i ≤ 1000000 := hnl
      generalize (s.c + i) % s.S = p at hpS e4 hu1 hnl
      (have g0 := decide_t hz; refine GN1 ?_; clear g0)
      refine ei_dregD ?_
      refine GD0 ?_
      refine GC ?_
      refine (wplace s.S s.w s.c dv s.room s.wt s.put _ _ (by omega) k2 (by omega) (by omega)).mono ?_
      rintro v H' ⟨rfl, rfl⟩
      rw [Int.toNat_natCast]
      refine ⟨?_, ?_⟩
      · exact GR0
      (have g0 := e4; have g1 := hu1; have g2 := hu2; have g3 := hu3; refine GD4 ?_; clear g0 g1 g2 g3)
      ((apply RunD.al); (· rfl); (· rfl); (· (simp only [go_sem, Int.reduceBEq, Int.reduceBNe, Int.reduceLT, Int.reduceLE, Int.reduceAdd, Int.reduceSub, Int.reduceToNat, reduceIte, Nat.reduceEqDiff, Nat.reduceAdd, Nat.reduceMul, Nat.reduceLeDiff, Nat.reduceSub, reduceCtorEq]; (try simp (disch := omega) only [OM, mn_lo, mn_hi, mx_lo, mx_hi, if_yes, if_no, Option.map_some]); (try with_reducible exact rfl))))
      have hw := hD.push (o := .rw [.i .i64 (hN s i : Nat)]) rfl
      rcases hvo with ⟨rfl, rfl, rfl⟩ | ⟨jo, rfl, rfl, hJn⟩
      · refine RunD.app rfl rfl (appNil (j := D.length + 7) (new := [.i .i64 (hN s 0 : Nat)]) (by (simp only [go_sem, reduceIte, Nat.reduceEqDiff]; (try with_reducible exact rfl))) (by (simp only [go_sem, reduceIte, Nat.reduceEqDiff]; (try with_reducible exact rfl))) (by (simp only [go_sem, reduceIte, Nat.reduceEqDiff]; (try with_reducible exact rfl))) rfl (by omega)) ?_ ?_
        · exact GR0
        refine GD0 ?_
        (have g0 := e3; refine GG1 ?_; clear g0)
        have hwd := hw.pushK (o := .rw (hC s 1)) (hC_wf s 0 1)
        refine ⟨s.S - (0 + 1), by omega, 0 + 1, .sl ((D ++ [AObj.rw [.i .i64 (hN s 0 : Nat)]]).length + 7) 0 1 1, ((D ++ [AObj.rw [.i .i64 (hN s 0 : Nat)]]).length, .rw (hC s 1)) :: J', by omega, rfl, .inr ⟨_, rfl, rfl, fun x hx => ?_⟩, ⟨b, dv, cells, _, _, rfl, hwd, hb, hm, hk⟩, by simp [Kp, Env.get]⟩
        have := get_lt (hD.keep x hx).2
        simp; omega
      · obtain ⟨hjt, hjo⟩ := hD.keep (jo, .rw (hC s i)) (by simp)
        have hjlt := get_lt hjo
        have hjo2 := getP (o := .rw [.i .i64 (hN s i : Nat)]) hjo
        refine RunD.app rfl rfl (appOne (a := []) (id := jo + 7) (c := hC s i) (n := i) (j := D.length + 7) (new := [.i .i64 (hN s i : Nat)]) (by (simp only [go_sem, reduceIte, Nat.reduceEqDiff]; (try with_reducible exact rfl))) (by (simp only [go_sem, reduceIte, Nat.reduceEqDiff, hjo2]; (try with_reducible exact rfl))) (by rw [hC_len, Nat.mul_one]) (by (simp only [go_sem, reduceIte, Nat.reduceEqDiff]; (try with_reducible exact rfl))) (by (simp only [go_sem, reduceIte, Nat.reduceEqDiff]; (try with_reducible exact rfl))) rfl (by omega)) ?_ ?_
        · exact GR0
        refine GD0 ?_
        (have g0 := e3; refine GG1 ?_; clear g0)
        have hne : jo ≠ D.length := by omega
        have hwd := (hw.setK (J' := J) (j := jo) (o := .dead) (by unfold tg; rw [if_neg hne]; exact hjt) rfl (by simp; omega) (fun x hx => .inl ⟨by simp [hx], hJn x hx⟩)).pushK (o := .rw (hC s (i + 1))) (hC_wf s 0 _)
        rw [List.length_set, hC_succ] at hwd
        refine ⟨s.S - (i + 1), by omega, i + 1, .sl ((D ++ [AObj.rw [.i .i64 (hN s i : Nat)]]).length + 7) 0 (i + 1) 1, ((D ++ [AObj.rw [.i .i64 (hN s i : Nat)]]).length, .rw (hC s (i + 1))) :: J, by omega, rfl, .inr ⟨_, rfl, rfl, fun x hx => ?_⟩, ⟨b, dv, cells, _, _, rfl, by rw [hC_succ]; exact hwd, hb, hm, hk⟩, by simp [Kp, Env.get]⟩
        have := get_lt (hD.keep x (by simp [hx])).2
        simp; omega
/-- A wheel beside other objects: it stands behind A, its own object is wid. -/
def LW (A R : Heap) (wid : Nat) (s : Ws) (J : Jl) : Prop := ∃ (ids : List Nat) (W : Heap), At (A ++ R) ids W ∧ (∀ i ∈ ids, A.length ≤ i) ∧ nm ids 0 = wid ∧ WH s J W
theorem SoundM.long {P : Program} {m : Nat} {f : FuncId} {vs : List Val} {H : Heap} {Q : Val → Heap → Prop} (h : SoundM P m f vs H Q) : SoundM P m f vs H (fun v H' => Q v H' ∧ m ≤ H'.length) := by
  have key : ∀ {σ : Names} {w : World} {e : Ending} {w' : World}, PostM m σ H w Q e w' → PostM m σ H w (fun v H' => Q v H' ∧ m ≤ H'.length) e w' := by
    rintro σ w e w' ⟨v, c, H', σ', h1, h2, h3, h4, h5⟩
    exact ⟨v, c, H', σ', h1, h2, ⟨h3, h5.len⟩, h4, h5⟩
  refine ⟨h.1, fun σ w cs r l => ?_⟩
  rcases h.2 σ w cs r l with ⟨g, h1, h2⟩ | ⟨c, w', h1, h2⟩
  · exact .inl ⟨g, h1, h2.mono fun e w' q => key q⟩
  · exact .inr ⟨c, w', h1, key h2⟩
theorem LW.push {A R : Heap} {wid : Nat} {s : Ws} {J : Jl} (h : LW A R wid s J) (R' : Heap) : LW A (R ++ R') wid s J := by
  obtain ⟨ids, W, h1, h2, h3, h4⟩ := h
  exact ⟨ids, W, by rw [← List.append_assoc]; exact h1.push R', h2, h3, h4⟩
theorem LW.less {A R : Heap} {wid : Nat} {s : Ws} {J J' : Jl} (h : LW A R wid s J) (hJ : ∀ x ∈ J', x ∈ J) : LW A R wid s J' := by
  obtain ⟨ids, W, h1, h2, h3, b, dv, cells, D, tag, h4, hD, h5⟩ := h
  exact ⟨ids, W, h1, h2, h3, b, dv, cells, D, tag, h4, hD.less hJ, h5⟩
/-- A call of one of the wheel's functions, beside other objects. -/
theorem LW.call {P : Program} {A R : Heap} {wid : Nat} {s : Ws} {J : Jl} {f : FuncId} {xs : List Val} {Q : Val → Heap → Prop} (h : LW A R wid s J) (c : ∀ W, WH s J W → SoundCall P f (.p 0 0 :: xs) W Q) (hx : wfL 0 xs = true) (hQ : ∀ v W', Q v W' → ∃ s' J', WH s' J' W') :
    SoundCall P f (.p wid 0 :: xs) (A ++ R) (fun v H' => ∃ (R' : Heap) (v0 : Val) (W' : Heap) (ι : Nat → Nat), H' = A ++ R' ∧ Q v0 W' ∧ v = v0.ren ι ∧ (∀ s' J', WH s' J' W' → LW A R' wid s' J') ∧
      ∀ (x : Nat) (o : AObj), W'[x]? = some o → o.wf 0 = true → A.length ≤ ι x ∧ (A ++ R')[ι x]? = some o) := by
  obtain ⟨ids, W, hat, hge, hw, hW⟩ := h
  have h7 := hW.len
  have hxr : renL (nm ids) xs = xs := by
    have e := renL_same (f := nm ids) (g := id) (n := 0) (fun x hx => by omega) xs hx
    rw [e]
    clear e hx c
    have key : (∀ v : Val, v.ren id = v) := fun v => ren_id v
    induction xs with
    | nil => rfl
    | cons v l ih => simp only [renL, key, ih]
  have hcall := At.call (SoundM.long (c W hW)) hat (vs := .p 0 0 :: xs) (ws := .p wid 0 :: xs) (by
    simp only [wfL, Val.wf, Bool.and_eq_true, decide_eq_true_eq]
    exact ⟨by omega, wfL_mono (Nat.zero_le _) xs hx⟩) (by simp only [renL, Val.ren, hw, hxr])
  refine hcall.mono ?_
  rintro v H' ⟨v0, W', ⟨hq, hlong⟩, rfl, hleft⟩
  obtain ⟨R', rfl⟩ := hleft.front hge
  obtain ⟨s0, J0, hW0⟩ := hQ v0 W' hq
  have hat' := hleft.at_ hW0.wf hlong
  have htk : ids.take W.length = ids := List.take_of_length_le (by rw [hat.len]; exact Nat.le_refl _)
  have hge' := Left.ge (k := W.length) (H' := []) (C' := W') hge (show A.length ≤ (A ++ R).length by simp)
  have hnm : ∀ x, x < W'.length → nm (ids.take W.length ++ List.range' (A ++ R).length (W'.length - W.length)) x = after (nm ids) W.length (A ++ R).length x := fun x hx => by
    unfold after
    split
    · rename_i h
      simp only [nm, htk, List.getD_eq_getElem?_getD]
      rw [List.getElem?_append_left (by rw [hat.len]; exact h)]
    · rename_i h
      refine nm_get ?_
      rw [htk, List.getElem?_append_right (by rw [hat.len]; omega), hat.len, List.getElem?_range' (by omega)]
      simp
  refine ⟨R', v0, W', _, rfl, hq, rfl, fun s' J' hW' => ⟨_, W', hat', hge', ?_, hW'⟩, fun x o hx ho => ?_⟩
  · rw [hnm 0 (by omega)]
    unfold after
    rw [if_pos (by omega)]; exact hw
  · have hxl := (List.getElem?_eq_some_iff.1 hx).1
    rw [← hnm x hxl]
    have h1 := hat'.emb x o hx
    have e : o.ren (nm (ids.take W.length ++ List.range' (A ++ R).length (W'.length - W.length))) = o := by
      rw [obj_same (g := id) (n := 0) (fun y hy => by omega) ho]; exact obj_id o
    rw [e] at h1
    refine ⟨hge' _ ?_, h1⟩
    have : x < (ids.take W.length ++ List.range' (A ++ R).length (W'.length - W.length)).length := by rw [hat'.len]; exact hxl
    rw [nm_get (List.getElem?_eq_getElem this)]
    exact List.getElem_mem this
end Go.Proofs.YtmdilnelogechaaDoor.IR
namespace Go.Proofs.YtmdilnelogechaaDoor.IR
open Go Go.Proofs.YtmdilnelogechaaDoor.Ev Go.Proofs.YtmdilnelogechaaDoor.Ev.Rb Go.Proofs.YtmdilnelogechaaDoor.Ev.Wh Go.Proofs.YtmdilnelogechaaDoor.Ext Go.Proofs.YtmdilnelogechaaDoorW.PrintWords
set_option linter.unusedSimpArgs false
set_option linter.unusedVariables false
set_option maxHeartbeats 4000000
attribute [local go_sem] skipV nc0 nc1 nc2 nc3 bne_self_eq_false decide_true decide_false IOp.step Opd.ev Env.get initEnv Val.cells? Val.one List.all_cons List.all_nil Bool.and_true Bool.and_self Bool.true_and bin ints eqv Val.kindNo lenNo_s lenNo_nils lenNo_sl lenNo_nilm lenNo_m lenOf_s lenOf_nils lenOf_sl lenOf_nilm unary partsOf padTo List.foldl_cons List.foldl_nil wr_nil wr_step wr_zero List.set_cons_zero List.set_cons_succ List.map_cons List.map_nil z1 z2 Nat.succ_ne_zero List.length_cons List.length_nil List.cons_append List.nil_append List.append_nil List.getElem?_cons_zero List.getElem?_cons_succ List.getElem?_nil Option.map_some Option.map_none Nat.zero_add Nat.add_zero List.drop_zero List.drop_succ_cons List.take_succ_cons List.take_zero List.take_nil and_self and_true true_and Nat.le_refl Bool.not_true Bool.not_false Option.getD_some window Val.slen bnd resV resL RV.val Bool.false_eq_true BEq.rfl Bool.true_beq Bool.false_beq beq_true beq_false mk_one ite_true ite_false eqc ceqs ceq NOp.step isK eq_self
attribute [local go_sem] nat_toNat
theorem WT.init {S w room : Nat} (hS : 2 ≤ S) : WT (Wd.init S w room) [] := by
  refine ⟨⟨fun q _ => .refl _, by simp, by simp⟩, rfl, by simp, .nil, by simp, by simp [Wd.init]⟩
def tlP (s : Ws) (v : Int) (t : Nat) : Tl := [(newT s v t, stC s.S s.c (slotN t s.w : Nat))]
theorem WT.put {s : Ws} {T : Tl} (h : WT s T) (hk : WOk s) {v : Int} {t : Nat} (ht : t ≤ 18446744073709551615) (hr : s.wt + s.due.length < s.room) : WT (put1 s v t) (T ++ tlP s v t) := by
  have hsl := slotN_le t s.w hk.w1
  have hS := hk.S2
  have hroom := hk.room
  refine ⟨?_, ?_, fun y hy => ?_, ?_, fun y hy => ?_, ?_⟩
  · exact h.rt.add (x := newT s v t) (t := stC s.S s.c (slotN t s.w : Nat)) (stC_ge _ _ _ hk.c) (stC_le _ _ _) (stC_lt _ _ _ (by omega))
  · show (T ++ tlP s v t).length = s.wt + 1
    rw [List.length_append, h.len]; rfl
  · rcases List.mem_append.1 hy with hy | hy
    · exact h.ty y hy
    · simp only [tlP, List.mem_singleton] at hy
      subst hy
      show 0 ≤ ((slotN t s.w : Nat) : Int) ∧ ((slotN t s.w : Nat) : Int) ≤ _
      omega
  · rw [List.map_append, List.nodup_append]
    refine ⟨h.keys, by simp [tlP], fun a ha b hb e => ?_⟩
    simp only [tlP, List.map_cons, List.map_nil, List.mem_singleton] at hb
    subst hb
    obtain ⟨y, hy, rfl⟩ := List.mem_map.1 ha
    have := h.lt y hy
    have e2 := congrArg Prod.snd e
    simp only [ekey, newT] at e2
    omega
  · show y.1.2.1 < ((s.put + 1 : Nat) : Int)
    rcases List.mem_append.1 hy with hy | hy
    · have := h.lt y hy; omega
    · simp only [tlP, List.mem_singleton] at hy
      subst hy
      show ((s.put : Nat) : Int) < _
      omega
  · show s.wt + 1 + s.due.length ≤ 65536
    omega
theorem WT.less {s : Ws} {T : Tl} (h : WT s T) {l : List Int} (hl : l.length ≤ s.due.length) : WT { s with due := l } T :=
  ⟨h.rt, h.len, h.ty, h.keys, h.lt, by show s.wt + l.length ≤ 65536; have := h.sum; omega⟩
theorem WH.ok {s : Ws} {J : Jl} {H : Heap} (h : WH s J H) : WOk s := by
  obtain ⟨b, dv, cells, D, tag, _, _, _, _, hk⟩ := h
  exact hk
theorem WH.at_ {s : Ws} {J : Jl} {H : Heap} (h : WH s J H) {x : Nat × AObj} (hx : x ∈ J) : H[x.1 + 7]? = some x.2 := by
  obtain ⟨b, dv, cells, D, tag, rfl, hD, _⟩ := h
  exact (hD.keep x hx).2
theorem LW.ok {A R : Heap} {wid : Nat} {s : Ws} {J : Jl} (h : LW A R wid s J) : WOk s := by
  obtain ⟨ids, W, _, _, _, hW⟩ := h
  exact hW.ok
theorem WT.slots {s : Ws} {T : Tl} (h : WT s T) (hS : 0 < s.S) {q : Nat} (hq : q < s.S) : (s.sl q).length ≤ s.wt := by
  have h1 := (h.rt.perm hS).length_eq
  rw [List.length_map, h.len] at h1
  have := len_all (f := s.sl) hq
  omega
theorem hN_sum (s : Ws) (k : Nat) : (outL s.S s.c s.sl (k + 1)).length = (outL s.S s.c s.sl k).length + hN s k := by
  rw [outL_succ, List.length_append]; rfl
theorem WT.held {s : Ws} {T : Tl} (h : WT s T) (hS : 0 < s.S) : (outL s.S s.c s.sl s.S).length = s.wt := by
  have h1 := (h.rt.out hS (Nat.le_refl _)).length_eq
  rw [List.length_map, List.filter_eq_self.2 (fun y hy => by have := (h.rt.hi y hy).2; simp; omega), h.len] at h1
  exact h1
theorem outL_mono (s : Ws) : ∀ {k n : Nat}, k ≤ n → (outL s.S s.c s.sl k).length ≤ (outL s.S s.c s.sl n).length
  | k, 0, h => by obtain rfl : k = 0 := by omega
                  exact Nat.le_refl _
  | k, n + 1, h => by
    by_cases e : k = n + 1
    · subst e; exact Nat.le_refl _
    · have := outL_mono s (k := k) (n := n) (by omega)
      have := hN_sum s n
      omega
theorem due_w {s : Ws} {J : Jl} (W : Heap) (h : WH s J W) : SoundCall Tryd.prog 14 [.p 0 0] W (fun v W' => v = .i .i64 (s.due.length : Nat) ∧ WH s J W') :=
  (due_c s J W h).mono fun v W' q => ⟨q.1, by rw [q.2]; exact h⟩
theorem waits_w {s : Ws} {J : Jl} (W : Heap) (h : WH s J W) : SoundCall Tryd.prog 17 [.p 0 0] W (fun v W' => v = .i .i64 (s.wt : Nat) ∧ WH s J W') :=
  (waits_c s J W h).mono fun v W' q => ⟨q.1, by rw [q.2]; exact h⟩
theorem cursor_w {s : Ws} {J : Jl} (W : Heap) (h : WH s J W) : SoundCall Tryd.prog 19 [.p 0 0] W (fun v W' => v = .i .u64 (s.c : Nat) ∧ WH s J W') :=
  (cursor_c s J W h).mono fun v W' q => ⟨q.1, by rw [q.2]; exact h⟩
theorem hq1 {s : Ws} {J : Jl} {P : Val → Prop} : ∀ v W', P v ∧ WH s J W' → ∃ s' J', WH s' J' W' := fun v W' h => ⟨_, _, h.2⟩
/-- A new wheel, behind all others. -/
theorem LW.new (A : Heap) (S w room : Nat) (hS : 2 ≤ S) (hS2 : S ≤ 4096) (hw : 1 ≤ w) (hw2 : w ≤ 1099511627776) (hr : 1 ≤ room) (hr2 : room ≤ 65536) :
    SoundCall Tryd.prog 20 [.i .i64 (S : Nat), .i .u64 (w : Nat), .i .i64 (room : Nat)] A (fun v H' => ∃ R wid, H' = A ++ R ∧ v = .tup [.p wid 0, .i .i64 0] ∧ LW A R wid (Wd.init S w room) []) := by
  have hat : At (A ++ []) [] [] := ⟨rfl, .nil, by simp, by simp⟩
  have hc := At.call (new_wc S w room hS hS2 hw hw2 hr hr2) hat rfl (ws := [.i .i64 (S : Nat), .i .u64 (w : Nat), .i .i64 (room : Nat)]) rfl
  rw [List.append_nil] at hc
  refine hc.mono ?_
  rintro v H' ⟨v0, C', ⟨rfl, hW⟩, rfl, hleft⟩
  have hleft' : Go.Proofs.YtmdilnelogechaaDoor.Ev.Left 0 (A ++ []) [] H' C' := by rw [List.append_nil]; exact hleft
  obtain ⟨R, rfl⟩ := hleft'.front (by simp)
  have h7 := hW.len
  have hat' := hleft.at_ hW.wf (Nat.zero_le _)
  refine ⟨R, A.length, rfl, by simp [Val.ren, renL, after], _, C', hat', ?_, ?_, hW⟩
  · intro i hi
    have := Go.Proofs.YtmdilnelogechaaDoor.Ev.Left.ge (k := 0) (H' := []) (C' := C') (H := A) (ids := []) (a := A.length) (by simp) (Nat.le_refl _) i hi
    exact this
  · simp only [List.take_nil, List.nil_append]
    refine nm_get ?_
    rw [List.getElem?_range' (by omega)]
    simp
end Go.Proofs.YtmdilnelogechaaDoor.IR
