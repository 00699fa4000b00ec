/- This text of a proof shows: two wheels side by side; what is due behind any Advances, in plain words; a wheel that the laws make. -/
import Derived.Test.YtmdilnelogechaaDoorGg
import Derived.Test.YtmdilnelogechaaDoorWg
set_option linter.unusedVariables false
set_option linter.unusedSimpArgs false
set_option linter.constructorNameAsVariable false
namespace Go.Proofs.YtmdilnelogechaaDoor.IR
open Go Go.Proofs.YtmdilnelogechaaDoor.Ev Go.Proofs.YtmdilnelogechaaDoor.Ev.Rb Go.Proofs.YtmdilnelogechaaDoor.Ev.Wh Go.Proofs.YtmdilnelogechaaDoor.Ext Go.Proofs.YtmdilnelogechaaDoorW.PrintWords
set_option linter.unusedSimpArgs false
set_option linter.unusedVariables false
set_option maxHeartbeats 4000000
attribute [local go_sem] skipV nc0 nc1 nc2 nc3 bne_self_eq_false decide_true decide_false IOp.step Opd.ev Env.get initEnv Val.cells? Val.one List.all_cons List.all_nil Bool.and_true Bool.and_self Bool.true_and bin ints eqv Val.kindNo lenNo_s lenNo_nils lenNo_sl lenNo_nilm lenNo_m lenOf_s lenOf_nils lenOf_sl lenOf_nilm unary partsOf padTo List.foldl_cons List.foldl_nil wr_nil wr_step wr_zero List.set_cons_zero List.set_cons_succ List.map_cons List.map_nil z1 z2 Nat.succ_ne_zero List.length_cons List.length_nil List.cons_append List.nil_append List.append_nil List.getElem?_cons_zero List.getElem?_cons_succ List.getElem?_nil Option.map_some Option.map_none Nat.zero_add Nat.add_zero List.drop_zero List.drop_succ_cons List.take_succ_cons List.take_zero List.take_nil and_self and_true true_and Nat.le_refl Bool.not_true Bool.not_false Option.getD_some window Val.slen bnd resV resL RV.val Bool.false_eq_true BEq.rfl Bool.true_beq Bool.false_beq beq_true beq_false mk_one ite_true ite_false eqc ceqs ceq NOp.step isK eq_self
attribute [local go_sem] nat_toNat
def LW2 (A R : Heap) (w1 : Nat) (s1 : Ws) (w2 : Nat) (s2 : Ws) : Prop := ∃ (i1 : List Nat) (W1 : Heap) (i2 : List Nat) (W2 : Heap), At (A ++ R) i1 W1 ∧ At (A ++ R) i2 W2 ∧ (∀ i ∈ i1, A.length ≤ i) ∧ (∀ i ∈ i2, A.length ≤ i) ∧ (∀ i ∈ i1, i ∉ i2) ∧ nm i1 0 = w1 ∧ nm i2 0 = w2 ∧ WH s1 [] W1 ∧ WH s2 [] W2
theorem LW2.swap {A R : Heap} {w1 w2 : Nat} {s1 s2 : Ws} (h : LW2 A R w1 s1 w2 s2) : LW2 A R w2 s2 w1 s1 := by
  obtain ⟨i1, W1, i2, W2, h1, h2, h3, h4, h5, h6, h7, h8, h9⟩ := h
  exact ⟨i2, W2, i1, W1, h2, h1, h4, h3, fun i hi hj => h5 i hj hi, h7, h6, h9, h8⟩
theorem LW2.push {A R : Heap} {w1 w2 : Nat} {s1 s2 : Ws} (h : LW2 A R w1 s1 w2 s2) (R' : Heap) : LW2 A (R ++ R') w1 s1 w2 s2 := by
  obtain ⟨i1, W1, i2, W2, h1, h2, h3⟩ := h
  exact ⟨i1, W1, i2, W2, by rw [← List.append_assoc]; exact h1.push R', by rw [← List.append_assoc]; exact h2.push R', h3⟩
theorem LW2.of {A R1 R2 : Heap} {w1 w2 : Nat} {s1 s2 : Ws} (h1 : LW A R1 w1 s1 []) (h2 : LW (A ++ R1) R2 w2 s2 []) : LW2 A (R1 ++ R2) w1 s1 w2 s2 := by
  obtain ⟨i1, W1, a1, a2, a3, a4⟩ := h1
  obtain ⟨i2, W2, b1, b2, b3, b4⟩ := h2
  refine ⟨i1, W1, i2, W2, by rw [← List.append_assoc]; exact a1.push R2, by rw [← List.append_assoc]; exact b1, a2, fun i hi => ?_, fun i hi hj => ?_, a3, b3, a4, b4⟩
  · have := b2 i hi
    simp at this; omega
  · have h1 := a1.lt hi
    have h2 := b2 i hj
    omega
theorem LW2.ok {A R : Heap} {w1 w2 : Nat} {s1 s2 : Ws} (h : LW2 A R w1 s1 w2 s2) : WOk s1 := by
  obtain ⟨i1, W1, i2, W2, _, _, _, _, _, _, _, h8, _⟩ := h
  exact h8.ok
theorem LW2.call {P : Program} {A R : Heap} {w1 w2 : Nat} {s1 s2 : Ws} {f : FuncId} {xs : List Val} {Q : Val → Heap → Prop} (h : LW2 A R w1 s1 w2 s2) (c : ∀ W, WH s1 [] W → SoundCall P f (.p 0 0 :: xs) W Q) (hx : wfL 0 xs = true) (hQ : ∀ v W', Q v W' → ∃ s' J', WH s' J' W') :
    SoundCall P f (.p w1 0 :: xs) (A ++ R) (fun v H' => ∃ (R' : Heap) (v0 : Val) (W' : Heap) (ι : Nat → Nat), H' = A ++ R' ∧ Q v0 W' ∧ v = v0.ren ι ∧ ∀ s', WH s' [] W' → LW2 A R' w1 s' w2 s2) := by
  obtain ⟨ids, W, i2, W2, hat, hat2, hge, hge2, hdis, hw, hw2, hW, hW2⟩ := h
  have h7 := hW.len
  have hxr : renL (nm ids) xs = xs := by
    have e := renL_same (f := nm ids) (g := id) (n := 0) (fun x hx => by omega) xs hx
    rw [e, renL_id]
  have hcall := At.call (SoundM.long (c W hW)) hat (vs := .p 0 0 :: xs) (ws := .p w1 0 :: xs) (by
    simp only [wfL, Val.wf, Bool.and_eq_true, decide_eq_true_eq]
    exact ⟨by omega, wfL_mono (Nat.zero_le _) xs hx⟩) (by simp only [renL, Val.ren, hw, hxr])
  refine hcall.mono ?_
  rintro v H' ⟨v0, W', ⟨hq, hlong⟩, rfl, hleft⟩
  obtain ⟨R', rfl⟩ := hleft.front hge
  obtain ⟨s0, J0, hW0⟩ := hQ v0 W' hq
  have hat' := hleft.at_ hW0.wf hlong
  have htk : ids.take W.length = ids := List.take_of_length_le (by rw [hat.len]; exact Nat.le_refl _)
  have hge' := Left.ge (k := W.length) (H' := []) (C' := W') hge (show A.length ≤ (A ++ R).length by simp)
  refine ⟨R', v0, W', _, rfl, hq, rfl, fun s' hW' => ⟨_, W', i2, W2, hat', hat2.congr fun i hi => hleft.keep i (hat2.lt hi) (fun hj => hdis i hj hi), hge', hge2, fun i hi hj => ?_, ?_, hw2, hW', hW2⟩⟩
  · rcases List.mem_append.1 hi with hi | hi
    · exact hdis i (List.take_subset _ _ hi) hj
    · have h1 := List.mem_range'_1.1 hi
      have h2 := hat2.lt hj
      omega
  · rw [htk]
    have : 0 < ids.length := by rw [hat.len]; omega
    rw [← hw]
    simp only [nm, List.getD_eq_getElem?_getD]
    rw [List.getElem?_append_left this]
/-- What is due, behind any Advances: all that was put (L0) is due (d), or waits (T). -/
structure PS (s : Ws) (T : Tl) (d L0 : List Th) : Prop where
  wt : WT s T
  up : ∀ y ∈ T, (y.2 : Int) ≤ max y.1.1 (s.c : Nat)
  due : s.due = vs d
  sorted : Sorted d
  perm : (d ++ T.map (·.1)).Perm L0
  cross : ∀ x ∈ d, ∀ y ∈ T, klt (ekey x) (ekey y.1)
  done : ∀ x ∈ d, x.1 ≤ (s.c : Nat)
theorem stC_up (S c : Nat) (x : Int) (hx : 0 ≤ x) : (stC S c x : Int) ≤ max x (c : Nat) := by unfold stC; omega
theorem PS.adv {s : Ws} {T : Tl} {d L0 : List Th} (h : PS s T d L0) {t : Nat} (ht : s.c ≤ t) {l : List Th} {s' : Ws} (hp : l.Perm ((T.filter fun y => y.2 ≤ t).map (·.1))) (hso : Sorted l) (hA : AdvP s T t l s') :
    PS s' ((T.filter fun y => t < y.2) ++ again s.S t (farL t l)) (d ++ dueL t l) L0 ∧ ∀ y ∈ (T.filter fun y => t < y.2) ++ again s.S t (farL t l), ((t : Nat) : Int) < y.1.1 := by
  obtain ⟨g1, g2, g3, g4, g5⟩ := hA.same
  have hmem : ∀ x ∈ l, ∃ y ∈ T, y.1 = x := fun x hx => by
    obtain ⟨y, hy, e⟩ := List.mem_map.1 (hp.subset hx)
    exact ⟨y, (List.mem_filter.1 hy).1, e⟩
  have hlate : ∀ y ∈ (T.filter fun y => t < y.2) ++ again s.S t (farL t l), ((t : Nat) : Int) < y.1.1 := fun y hy => by
    rcases List.mem_append.1 hy with hy | hy
    · obtain ⟨h1, h2⟩ := List.mem_filter.1 hy
      have := h.up y h1
      simp at h2; omega
    · obtain ⟨x, hx, rfl⟩ := List.mem_map.1 hy
      have := (List.mem_filter.1 hx).2
      simpa using this
  have hfrom : ∀ y ∈ (T.filter fun y => t < y.2) ++ again s.S t (farL t l), ∃ z ∈ T, z.1 = y.1 := fun y hy => by
    rcases List.mem_append.1 hy with hy | hy
    · exact ⟨y, (List.mem_filter.1 hy).1, rfl⟩
    · obtain ⟨x, hx, rfl⟩ := List.mem_map.1 hy
      exact hmem x (List.mem_filter.1 hx).1
  refine ⟨⟨hA.wT, fun y hy => ?_, ?_, ?_, ?_, fun x hx y hy => ?_, fun x hx => ?_⟩, hlate⟩
  · rw [g3]
    rcases List.mem_append.1 hy with hy | hy
    · have := h.up y (List.mem_filter.1 hy).1
      omega
    · obtain ⟨x, hx, rfl⟩ := List.mem_map.1 hy
      obtain ⟨z, hz, e⟩ := hmem x (List.mem_filter.1 hx).1
      have := (h.wt.ty z hz).1
      rw [e] at this
      exact stC_up _ _ _ this
  · rw [hA.due, h.due]; simp [vs]
  · refine List.pairwise_append.2 ⟨h.sorted, List.Pairwise.sublist List.filter_sublist hso, fun a ha b hb => ?_⟩
    obtain ⟨z, hz, e⟩ := hmem b (List.mem_filter.1 hb).1
    rw [← e]; exact h.cross a ha z hz
  · have hdf : l.Perm (dueL t l ++ farL t l) := by
      have := filter_two (l := l) (p := fun x : Th => decide (x.1 ≤ (t : Nat))) (q := fun x : Th => decide (((t : Nat) : Int) < x.1)) (r := fun _ => true) (fun x _ => by
        constructor
        · rw [Bool.eq_iff_iff]; simp; omega
        · simp)
      rwa [List.filter_eq_self.2 fun _ _ => rfl] at this
    have hTp := (split_perm t T).map (·.1)
    rw [List.map_append] at hTp ⊢
    have e2 : (again s.S t (farL t l)).map (·.1) = farL t l := by
      unfold again
      rw [List.map_map]
      exact List.map_id _
    rw [e2]
    refine List.Perm.trans ?_ h.perm
    rw [List.append_assoc]
    refine List.Perm.append_left d ?_
    refine List.Perm.trans ?_ hTp.symm
    refine List.Perm.trans ?_ (List.Perm.append_right _ (hdf.symm.trans hp))
    rw [List.append_assoc]
    exact List.Perm.append_left _ List.perm_append_comm
  · obtain ⟨z, hz, e⟩ := hfrom y hy
    rcases List.mem_append.1 hx with hx | hx
    · rw [← e]; exact h.cross x hx z hz
    · have h1 := hlate y hy
      have h2 := (List.mem_filter.1 hx).2
      simp at h2
      left
      show x.1 < y.1.1
      omega
  · rw [g3]
    rcases List.mem_append.1 hx with hx | hx
    · have := h.done x hx; omega
    · simpa using (List.mem_filter.1 hx).2
/-- All that is due to an instant is due, in the one order that there is. -/
theorem PS.same {s s' : Ws} {T T' : Tl} {d d' L0 : List Th} (h : PS s T d L0) (h' : PS s' T' d' L0) (hc : s.c = s'.c) (hl : ∀ y ∈ T, (s.c : Int) < y.1.1) (hl' : ∀ y ∈ T', (s'.c : Int) < y.1.1) : d = d' ∧ s.wt = s'.wt := by
  have key : ∀ {s : Ws} {T : Tl} {d : List Th}, PS s T d L0 → (∀ y ∈ T, (s.c : Int) < y.1.1) → d.Perm (L0.filter fun x => x.1 ≤ (s.c : Nat)) := fun {s T d} h hl => by
    have hp := h.perm.filter (fun x : Th => decide (x.1 ≤ (s.c : Nat)))
    rw [List.filter_append, List.filter_eq_self.2 (fun x hx => by simpa using h.done x hx), List.filter_eq_nil_iff.2 (fun x hx => by
      obtain ⟨y, hy, e⟩ := List.mem_map.1 hx
      have := hl y hy
      rw [e] at this
      simp; omega), List.append_nil] at hp
    exact hp
  have h1 := key h hl
  have h2 := key h' hl'
  rw [← hc] at h2
  have hd : d = d' := sorted_eq h.sorted h'.sorted (h1.trans h2.symm)
  subst hd
  refine ⟨rfl, ?_⟩
  have l1 := h.perm.length_eq
  have l2 := h'.perm.length_eq
  simp only [List.length_append, List.length_map, h.wt.len, h'.wt.len] at l1 l2
  omega
/-- A wheel that the laws make. -/
theorem made_c (A : Heap) (a0 a1 : Int) (S w : Nat) (h0 : 0 ≤ a0 ∧ a0 ≤ 255) (h1 : 0 ≤ a1 ∧ a1 ≤ 65535) (hS : S = 2 + (a0 % 64).toNat) (hw : w = 1 + (a1 % 1000).toNat) :
    SoundCall Tryd.prog 9 [.i .u8 a0, .i .u16 a1] A (fun v H' => ∃ R wid, H' = A ++ R ∧ v = .tup [.p wid 0, .i .u64 (w : Nat), .b true] ∧ LW A R wid (Wd.init S w 200) []) := by
  refine (sound_func Tryd.func9 c9 rfl (Nat.le_refl _) ?_)
  simp only [e9, mvT, opT, onT, unT, clT]
  have hS1 : 2 ≤ S := by omega
  have hS2 : S ≤ 65 := by omega
  have e3 : a0.tmod 64 = ((S : Nat) : Int) - 2 := by rw [tmod_nn (by omega)]; omega
  have e4 : a1.tmod 1000 = ((w : Nat) : Int) - 1 := by rw [tmod_nn (by omega)]; omega
  have e5 : (2 : Int) + (((S : Nat) : Int) - 2) = ((S : Nat) : Int) := by omega
  have e6 : (1 : Int) + (((w : Nat) : Int) - 1) = ((w : Nat) : Int) := by omega
  (have g0 := e3; have g1 := e4; have g2 := e5; have g3 := e6; refine GG4 ?_; clear g0 g1 g2 g3)
  (first | ((with_reducible first | apply RunP.call | apply Run.call | apply Run.call0); iterate 2 (· (simp only [go_sem, reduceIte, Nat.reduceEqDiff]; (try with_reducible exact rfl)))) | ((with_reducible first | apply Run.callY | apply RunP.callY); iterate 3 (· (simp only [go_sem, reduceIte, Nat.reduceEqDiff]; (try with_reducible exact rfl)))))
  refine (LW.new _ S w 200 hS1 (by omega) (by omega) (by omega) (by omega) (by omega)).mono ?_
  rintro v H' ⟨R, wid, rfl, rfl, hLW⟩
  refine GG0 ?_
  exact ⟨R, wid, rfl, rfl, hLW⟩
end Go.Proofs.YtmdilnelogechaaDoor.IR
