/- This text of a proof shows: what Put, Take, Due, Waits, Cursor and Next of a wheel come to. -/
import Derived.Test.YtmdilnelogechaaDoorGg
import Derived.Test.YtmdilnelogechaaDoorWa
import Derived.Test.YtmdilnelogechaaDoorKl
import Derived.Test.YtmdilnelogechaaDoorGk
set_option linter.unusedVariables false
set_option linter.unusedSimpArgs false
set_option linter.constructorNameAsVariable false
namespace Go.Proofs.YtmdilnelogechaaDoor.IR
open Go Go.Proofs.YtmdilnelogechaaDoor.Ev Go.Proofs.YtmdilnelogechaaDoor.Ev.Rb Go.Proofs.YtmdilnelogechaaDoor.Ev.Wh Go.Proofs.YtmdilnelogechaaDoor.Ext Go.Proofs.YtmdilnelogechaaDoorW.PrintWords
set_option linter.unusedSimpArgs false
set_option linter.unusedVariables false
set_option maxHeartbeats 4000000
attribute [local go_sem] skipV nc0 nc1 nc2 nc3 bne_self_eq_false decide_true decide_false IOp.step Opd.ev Env.get initEnv Val.cells? Val.one List.all_cons List.all_nil Bool.and_true Bool.and_self Bool.true_and bin ints eqv Val.kindNo lenNo_s lenNo_nils lenNo_sl lenNo_nilm lenNo_m lenOf_s lenOf_nils lenOf_sl lenOf_nilm unary partsOf padTo List.foldl_cons List.foldl_nil wr_nil wr_step wr_zero List.set_cons_zero List.set_cons_succ List.map_cons List.map_nil z1 z2 Nat.succ_ne_zero List.length_cons List.length_nil List.cons_append List.nil_append List.append_nil List.getElem?_cons_zero List.getElem?_cons_succ List.getElem?_nil Option.map_some Option.map_none Nat.zero_add Nat.add_zero List.drop_zero List.drop_succ_cons List.take_succ_cons List.take_zero List.take_nil and_self and_true true_and Nat.le_refl Bool.not_true Bool.not_false Option.getD_some window Val.slen bnd resV resL RV.val Bool.false_eq_true BEq.rfl Bool.true_beq Bool.false_beq beq_true beq_false mk_one ite_true ite_false eqc ceqs ceq NOp.step isK eq_self
attribute [local go_sem] nat_toNat mxM mnM getC getC2 setC wr1 Nat.mul_one wC
attribute [local go_sem high] len7 get7 set7
theorem dv_no {s : Ws} {J : Jl} {dv : Val} {cells : List Val} {D : Heap} {tag : Nat → Nat} (h : WD s J dv cells D tag) : Val.lenNo dv = 2 := by
  rcases h.duev with ⟨rfl, _⟩ | ⟨j, k, _, rfl, _⟩ <;> rfl
theorem dv_len {s : Ws} {J : Jl} {dv : Val} {cells : List Val} {D : Heap} {tag : Nat → Nat} (h : WD s J dv cells D tag) (H : Heap) : lenOf dv H = some (.i .i64 (s.due.length : Nat)) := by
  rcases h.duev with ⟨rfl, e⟩ | ⟨j, k, _, rfl, _⟩
  · rw [e]; rfl
  · rfl
theorem due_c (s : Ws) (J : Jl) (H : Heap) (hH : WH s J H) : SoundCall Tryd.prog 14 [.p 0 0] H (fun v H' => v = .i .i64 (s.due.length : Nat) ∧ H' = H) := by
  obtain ⟨b, dv, cells, D, tag, rfl, hD, hb, hm, hk⟩ := hH
  have h1 := dv_no hD
  have h2 := dv_len hD
  refine (sound_func Tryd.func14 c14 rfl (Nat.le_refl _) ?_)
  simp only [e14, s14, WHb]
  refine GG0 ?_
  (first | ((with_reducible first | apply RunP.call | apply Run.call | apply Run.call0); iterate 2 (· (simp only [go_sem, reduceIte, Nat.reduceEqDiff]; (try with_reducible exact rfl)))) | ((with_reducible first | apply Run.callY | apply RunP.callY); iterate 3 (· (simp only [go_sem, reduceIte, Nat.reduceEqDiff]; (try with_reducible exact rfl)))))
  refine (wnone _ _ _ _ _ _ _ _).mono ?_
  rintro v H' ⟨rfl, rfl⟩
  (have g0 := h1; have g1 := h2; refine GG2 ?_; clear g0 g1)
  exact ⟨rfl, rfl⟩
theorem waits_c (s : Ws) (J : Jl) (H : Heap) (hH : WH s J H) : SoundCall Tryd.prog 17 [.p 0 0] H (fun v H' => v = .i .i64 (s.wt : Nat) ∧ H' = H) := by
  obtain ⟨b, dv, cells, D, tag, rfl, hD, hb, hm, hk⟩ := hH
  refine (sound_func Tryd.func17 c17 rfl (Nat.le_refl _) ?_)
  simp only [e17, s17, WHb]
  refine GG0 ?_
  (first | ((with_reducible first | apply RunP.call | apply Run.call | apply Run.call0); iterate 2 (· (simp only [go_sem, reduceIte, Nat.reduceEqDiff]; (try with_reducible exact rfl)))) | ((with_reducible first | apply Run.callY | apply RunP.callY); iterate 3 (· (simp only [go_sem, reduceIte, Nat.reduceEqDiff]; (try with_reducible exact rfl)))))
  refine (wnone _ _ _ _ _ _ _ _).mono ?_
  rintro v H' ⟨rfl, rfl⟩
  refine GG0 ?_
  exact ⟨rfl, rfl⟩
theorem cursor_c (s : Ws) (J : Jl) (H : Heap) (hH : WH s J H) : SoundCall Tryd.prog 19 [.p 0 0] H (fun v H' => v = .i .u64 (s.c : Nat) ∧ H' = H) := by
  obtain ⟨b, dv, cells, D, tag, rfl, hD, hb, hm, hk⟩ := hH
  refine (sound_func Tryd.func19 c19 rfl (Nat.le_refl _) ?_)
  simp only [e19, s19, WHb]
  refine GG0 ?_
  (first | ((with_reducible first | apply RunP.call | apply Run.call | apply Run.call0); iterate 2 (· (simp only [go_sem, reduceIte, Nat.reduceEqDiff]; (try with_reducible exact rfl)))) | ((with_reducible first | apply Run.callY | apply RunP.callY); iterate 3 (· (simp only [go_sem, reduceIte, Nat.reduceEqDiff]; (try with_reducible exact rfl)))))
  refine (wnone _ _ _ _ _ _ _ _).mono ?_
  rintro v H' ⟨rfl, rfl⟩
  refine GG0 ?_
  exact ⟨rfl, rfl⟩
theorem take_c (s : Ws) (J : Jl) (H : Heap) (hH : WH s J H) : SoundCall Tryd.prog 12 [.p 0 0] H (fun v H' => (s.due = [] ∧ v = .tup [.i .u64 0, .b false] ∧ WH s J H') ∨ ∃ x l, s.due = x :: l ∧ v = .tup [.i .u64 x, .b true] ∧ WH { s with due := l } J H') := by
  obtain ⟨b, dv, cells, D, tag, rfl, hD, hb, hm, hk⟩ := hH
  have h1 := dv_no hD
  have h2 := dv_len hD
  refine (sound_func Tryd.func12 c12 rfl (Nat.le_refl _) ?_)
  simp only [e12, s12, WHb]
  refine GG0 ?_
  (first | ((with_reducible first | apply RunP.call | apply Run.call | apply Run.call0); iterate 2 (· (simp only [go_sem, reduceIte, Nat.reduceEqDiff]; (try with_reducible exact rfl)))) | ((with_reducible first | apply Run.callY | apply RunP.callY); iterate 3 (· (simp only [go_sem, reduceIte, Nat.reduceEqDiff]; (try with_reducible exact rfl)))))
  refine (wnone _ _ _ _ _ _ _ _).mono ?_
  rintro v H' ⟨rfl, rfl⟩
  rcases hq : s.due with _ | ⟨x, l⟩
  · rw [hq] at h2
    simp only [List.length_nil] at h2
    (have g0 := h1; have g1 := h2; refine GG2 ?_; clear g0 g1)
    exact .inl ⟨rfl, rfl, b, dv, cells, D, tag, rfl, hD, hb, hm, hk⟩
  · obtain ⟨j, k, rfl, ⟨c, hc1, hc2⟩, hD2⟩ := hD.take hq
    rw [hq] at h2
    have hz : (((l.length + 1 : Nat) : Int) == 0) = false := beq_false_of_ne (by omega)
    (have g0 := hz; have g1 := hc1; have g2 := hc2; refine GG3 ?_; clear g0 g1 g2)
    refine .inr ⟨x, l, rfl, rfl, b, _, cells, D, tag, rfl, hD2, hb, hm, ?_⟩
    obtain ⟨k1, k2, k3, k4, k5, k6, k7, k8, k9⟩ := hk
    exact ⟨k1, k2, k3, k4, k5, k6, k7, by rw [hq] at k8; simp at k8; show l.length ≤ _; omega, k9⟩
/-- A thing put in. -/
def newT (s : Ws) (v : Int) (t : Nat) : Th := ((slotN t s.w : Nat), (s.put : Nat), v)
def put1 (s : Ws) (v : Int) (t : Nat) : Ws := { s.add (stP s (slotN t s.w : Nat)) (newT s v t) with put := s.put + 1, wt := s.wt + 1 }
theorem put_c (s : Ws) (J : Jl) (H : Heap) (hH : WH s J H) (v : Int) (t : Nat) (ht : t ≤ 18446744073709551615) (hl : (s.sl (stP s (slotN t s.w : Nat))).length ≤ 1000000) (hp : s.put < 4611686018427387904) :
    SoundCall Tryd.prog 10 [.p 0 0, .i .u64 v, .i .u64 (t : Nat)] H (fun r H' => (s.room ≤ s.wt + s.due.length ∧ r = .i .i64 4 ∧ WH s J H') ∨ (s.wt + s.due.length < s.room ∧ r = .i .i64 0 ∧ WH (put1 s v t) J H')) := by
  have hH0 := hH
  obtain ⟨b, dv, cells, D, tag, rfl, hD, hb, hm, hk⟩ := hH
  obtain ⟨k1, k2, k3, k4, k5, k6, k7, k8, k9⟩ := hk
  have h1 := dv_no hD
  have h2 := dv_len hD
  have hsl := slotN_le t s.w k3
  refine (sound_func Tryd.func10 c10 rfl (Nat.le_refl _) ?_)
  simp only [e10, s10, WHb]
  refine GG0 ?_
  (first | ((with_reducible first | apply RunP.call | apply Run.call | apply Run.call0); iterate 2 (· (simp only [go_sem, reduceIte, Nat.reduceEqDiff]; (try with_reducible exact rfl)))) | ((with_reducible first | apply Run.callY | apply RunP.callY); iterate 3 (· (simp only [go_sem, reduceIte, Nat.reduceEqDiff]; (try with_reducible exact rfl)))))
  refine (wnone _ _ _ _ _ _ _ _).mono ?_
  rintro v' H' ⟨rfl, rfl⟩
  have e1 : ((s.wt : Nat) : Int) + ((s.due.length : Nat) : Int) = ((s.wt + s.due.length : Nat) : Int) := rfl
  by_cases hf : s.room ≤ s.wt + s.due.length
  · have hd : ((s.wt + s.due.length : Nat) : Int) ≥ ((s.room : Nat) : Int) := by omega
    (have g0 := h1; have g1 := h2; have g2 := e1; have g3 := decide_t hd; refine GG4 ?_; clear g0 g1 g2 g3)
    exact .inl ⟨hf, rfl, b, dv, cells, D, tag, rfl, hD, hb, hm, ⟨k1, k2, k3, k4, k5, k6, k7, k8, k9⟩⟩
  · have hd : ¬ ((s.wt + s.due.length : Nat) : Int) ≥ ((s.room : Nat) : Int) := by omega
    (have g0 := h1; have g1 := h2; have g2 := e1; refine GG3 ?_; clear g0 g1 g2)
    (have g0 := decide_f hd; refine GN1 ?_; clear g0)
    refine ei_dregD ?_
    refine GD0 ?_
    refine GC ?_
    refine (slot_ok t s.w ht k3 (by omega) _).mono ?_
    rintro v' H' ⟨rfl, rfl⟩
    refine ⟨?_, ?_⟩
    · exact GR0
    refine GD0 ?_
    refine GC ?_
    refine (stand_c s J _ hH0 (newT s v t) ⟨by show (0 : Int) ≤ (slotN t s.w : Nat); omega, by show ((slotN t s.w : Nat) : Int) ≤ _; omega⟩ hl).mono ?_
    rintro v' H' ⟨b', dv', cells', D', tag', rfl, hD', hb', hm', hk'⟩
    refine ⟨?_, ?_⟩
    · exact GR0
    refine GD0 ?_
    simp only [WHb, Ws.add]
    have e2 : ((s.put : Nat) : Int) + 1 = ((s.put + 1 : Nat) : Int) := rfl
    have e3 : ((s.wt : Nat) : Int) + 1 = ((s.wt + 1 : Nat) : Int) := rfl
    (have g0 := e2; have g1 := e3; refine GG2 ?_; clear g0 g1)
    refine .inr ⟨by omega, rfl, b', dv', cells', D', tag', rfl, ⟨hD'.len, hD'.cell, hD'.duev, hD'.keep, hD'.flat⟩, hb', hm', ⟨k1, k2, k3, k4, k5, k6, ?_, k8, ?_⟩⟩
    · show s.wt + 1 ≤ 65536; omega
    · show s.put + 1 ≤ 4611686018427387904; omega
theorem rep_ren (ι : Nat → Nat) : ∀ n : Nat, renL ι (List.replicate n .nils) = List.replicate n .nils
  | 0 => rfl
  | n + 1 => by simp [List.replicate_succ, renL, Val.ren, rep_ren ι n]
theorem rep_wf (m : Nat) : ∀ n : Nat, wfL m (List.replicate n .nils) = true
  | 0 => rfl
  | n + 1 => by simp [List.replicate_succ, wfL, Val.wf, rep_wf m n]
def Wd.init (S w room : Nat) : Ws := { S := S, w := w, c := 0, room := room, wt := 0, put := 0, due := [], sl := fun _ => [] }
theorem new_wc (S w room : Nat) (hS : 2 ≤ S) (hS2 : S ≤ 4096) (hw : 1 ≤ w) (hw2 : w ≤ 1099511627776) (hr : 1 ≤ room) (hr2 : room ≤ 65536) :
    SoundM Tryd.prog 0 20 [.i .i64 (S : Nat), .i .u64 (w : Nat), .i .i64 (room : Nat)] [] (fun v H => v = .tup [.p 0 0, .i .i64 0] ∧ WH (Wd.init S w room) [] H) := by
  refine sound_told (sound_func Tryd.func20 c20 rfl (Nat.le_refl _) ?_)
  simp only [e20, s20]
  have d1 : ¬ ((S : Nat) : Int) < 2 := by omega
  have d2 : ¬ ((S : Nat) : Int) > 4096 := by omega
  have d3 : ¬ ((w : Nat) : Int) < 1 := by omega
  have d4 : ¬ ((w : Nat) : Int) > 1099511627776 := by omega
  have d5 : ¬ ((room : Nat) : Int) < 1 := by omega
  have d6 : ¬ ((room : Nat) : Int) > 65536 := by omega
  (have g0 := decide_f d1; have g1 := decide_f d2; have g2 := decide_f d3; have g3 := decide_f d4; have g4 := decide_f d5; have g5 := decide_f d6; refine GG6 ?_; clear g0 g1 g2 g3 g4 g5)
  (first | ((with_reducible first | apply RunP.call | apply Run.call | apply Run.call0); iterate 2 (· (simp only [go_sem, reduceIte, Nat.reduceEqDiff]; (try with_reducible exact rfl)))) | ((with_reducible first | apply Run.callY | apply RunP.callY); iterate 3 (· (simp only [go_sem, reduceIte, Nat.reduceEqDiff]; (try with_reducible exact rfl)))))
  refine sound_use (newP S (by omega) (by omega)) [] rfl (by decide) ?_ ?_ ?_ ?_ ?_; iterate 4 (· simp [-List.map_map, embAt, nm, rn_rw, rn_ro, rn_map, rn_iter, rn_dead, renL, Val.ren, wfAll, wn_rw, wn_ro, wn_map, wn_iter, wn_dead, wfL, Val.wf, Env.get, initEnv, Val.ren])
  rintro v C' ⟨rfl, rfl⟩
  simp only [merge, place, after, nm, MG, Val.ren, renL, rn_rw, rn_ro, rn_map, rn_iter, rn_dead, reduceIte, Nat.reduceLT, Nat.reduceAdd, Nat.reduceSub, Nat.lt_irrefl, Nat.zero_lt_one, Nat.zero_lt_succ, BB.hd_ren, BB.fl_ren, BB.o2_ren, BB.o3_ren, BB.o4_ren, BB.hd_wf, BB.fl_wf, BB.o2_wf, BB.o3_wf, BB.o4_wf, BB.pad]
  have hok : WOk (Wd.init S w room) := ⟨hS, hS2, hw, hw2, by show 0 ≤ _; omega, hr2, by show 0 ≤ _; omega, by show 0 ≤ _; omega, by show 0 ≤ _; omega⟩
  have hwd : WD (Wd.init S w room) [] .nils (List.replicate S .nils) [] (fun _ => 0) := ⟨by simp [Wd.init], fun p hp => .inl ⟨rfl, by have : p < S := hp; simp [this]⟩, .inl ⟨rfl, rfl⟩, by simp, by simp⟩
  generalize hB : BB.new S = b
  have hb : b.good S := hB ▸ good_new (by omega) (by omega)
  have hbp : ∀ p, p < S → (b.p p = true ↔ (Wd.init S w room).sl p ≠ []) := fun p _ => by subst hB; simp [BB.new, Wd.init]
  refine GG0 ?_
  refine told [6, 5, 0, 1, 2, 3, 4] (WHb (Wd.init S w room) b .nils (List.replicate S .nils) []) (.tup [.p 0 0, .i .i64 0]) ?_ (by decide) ?_ ?_ ?_ rfl ?_ ?_ ?_; iterate 6 (· simp [-List.map_map, embAt, nm, rn_rw, rn_ro, rn_map, rn_iter, rn_dead, renL, Val.ren, wfAll, wn_rw, wn_ro, wn_map, wn_iter, wn_dead, wfL, Val.wf, Env.get, initEnv, BB.hd_ren, BB.fl_ren, BB.o2_ren, BB.o3_ren, BB.o4_ren, BB.hd_wf, BB.fl_wf, BB.o2_wf, BB.o3_wf, BB.o4_wf, BB.pad, WHb, wC, Wd.init, rep_ren, rep_wf])
  exact ⟨rfl, b, .nils, _, [], fun _ => 0, rfl, hwd, hb, hbp, hok⟩
/-- All that a wheel's objects name is among them. -/
theorem WH.wf {s : Ws} {J : Jl} {H : Heap} (h : WH s J H) : ∀ (x : Nat) (o : AObj), H[x]? = some o → o.wf H.length = true := by
  obtain ⟨b, dv, cells, D, tag, rfl, hD, hb, hm, hk⟩ := h
  have hl : (WHb s b dv cells D).length = D.length + 7 := rfl
  have hdv : dv.wf (D.length + 7) = true := by
    rcases hD.duev with ⟨rfl, _⟩ | ⟨j, k, _, rfl, h3⟩
    · rfl
    · have := get_lt h3
      simp [Val.wf]; omega
  have hcells : wfL (D.length + 7) cells = true := by
    have key : ∀ (l : List Val), (∀ v ∈ l, v.wf (D.length + 7) = true) → wfL (D.length + 7) l = true := by
      intro l
      induction l with
      | nil => intro _; rfl
      | cons v l ih => intro h; simp [wfL, h v (by simp), ih fun u hu => h u (by simp [hu])]
    refine key _ fun v hv => ?_
    obtain ⟨p, hp, rfl⟩ := List.getElem_of_mem hv
    have hp' : p < s.S := by rw [← hD.len]; exact hp
    have hg := List.getElem?_eq_getElem hp
    rcases hD.cell p hp' with ⟨_, h2⟩ | ⟨j, _, h2, h3⟩
    · rw [h2] at hg
      rw [← Option.some.inj hg]; rfl
    · rw [h2] at hg
      have := get_lt h3
      rw [← Option.some.inj hg]
      simp [Val.wf]; omega
  have hDw : ∀ o ∈ D, o.wf (D.length + 7) = true := fun o ho => by
    have := hD.flat o ho
    exact wf_mono (Nat.zero_le _) this
  intro x o hx
  rw [hl]
  unfold WHb at hx
  match x, hx with
  | 0, hx => simp at hx; subst hx; simp [AObj.wf, wC, wfL, Val.wf, hdv]
  | 1, hx => simp at hx; subst hx; exact hcells
  | 2, hx => simp at hx; subst hx; simp [AObj.wf, BB.hd_wf]
  | 3, hx => simp at hx; subst hx; simp [AObj.wf]; exact BB.fl_wf _ _ _ _ _ ⟨by omega, by omega, by omega⟩
  | 4, hx => simp at hx; subst hx; exact BB.o2_wf _ _
  | 5, hx => simp at hx; subst hx; exact BB.o3_wf _ _
  | 6, hx => simp at hx; subst hx; exact BB.o4_wf _ _
  | x + 7, hx => exact hDw o (List.mem_of_getElem? (show D[x]? = some o from hx))
end Go.Proofs.YtmdilnelogechaaDoor.IR
