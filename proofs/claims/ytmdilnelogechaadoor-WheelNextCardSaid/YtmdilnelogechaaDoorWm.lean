/- This text of a proof shows: what Next of a wheel comes to. -/
import Derived.Test.YtmdilnelogechaaDoorGg
import Derived.Test.YtmdilnelogechaaDoorWg
set_option linter.unusedVariables false
set_option linter.unusedSimpArgs false
set_option linter.constructorNameAsVariable false
namespace Go.Proofs.YtmdilnelogechaaDoor.IR
open Go Go.Proofs.YtmdilnelogechaaDoor.Ev Go.Proofs.YtmdilnelogechaaDoor.Ev.Rb Go.Proofs.YtmdilnelogechaaDoor.Ev.Wh Go.Proofs.YtmdilnelogechaaDoor.Ext Go.Proofs.YtmdilnelogechaaDoorW.PrintWords
set_option linter.unusedSimpArgs false
set_option linter.unusedVariables false
set_option maxHeartbeats 4000000
attribute [local go_sem] skipV nc0 nc1 nc2 nc3 bne_self_eq_false decide_true decide_false IOp.step Opd.ev Env.get initEnv Val.cells? Val.one List.all_cons List.all_nil Bool.and_true Bool.and_self Bool.true_and bin ints eqv Val.kindNo lenNo_s lenNo_nils lenNo_sl lenNo_nilm lenNo_m lenOf_s lenOf_nils lenOf_sl lenOf_nilm unary partsOf padTo List.foldl_cons List.foldl_nil wr_nil wr_step wr_zero List.set_cons_zero List.set_cons_succ List.map_cons List.map_nil z1 z2 Nat.succ_ne_zero List.length_cons List.length_nil List.cons_append List.nil_append List.append_nil List.getElem?_cons_zero List.getElem?_cons_succ List.getElem?_nil Option.map_some Option.map_none Nat.zero_add Nat.add_zero List.drop_zero List.drop_succ_cons List.take_succ_cons List.take_zero List.take_nil and_self and_true true_and Nat.le_refl Bool.not_true Bool.not_false Option.getD_some window Val.slen bnd resV resL RV.val Bool.false_eq_true BEq.rfl Bool.true_beq Bool.false_beq beq_true beq_false mk_one ite_true ite_false eqc ceqs ceq NOp.step isK eq_self
attribute [local go_sem] nat_toNat mxM mnM getC getC2 setC wr1 Nat.mul_one wC
attribute [local go_sem high] len7 get7 set7
/-- The least place of all that waits. -/
def NxP (s : Ws) (T : Tl) (v : Val) : Prop := (s.wt = 0 ∧ v = .tup [.i .u64 0, .b false]) ∨ ∃ m, s.wt ≠ 0 ∧ (∃ y ∈ T, y.2 = m) ∧ (∀ z ∈ T, m ≤ z.2) ∧ v = .tup [.i .u64 (satN (m * s.w) : Nat), .b true]
theorem rt_mem {S c hi : Nat} {f : Nat → List Th} {T : Tl} (h : RT S c hi f T) {q : Nat} (hq : q < S) : f q ≠ [] ↔ ∃ y ∈ T, y.2 % S = q := by
  have hp := (h.slot q hq).length_eq
  rw [List.length_map] at hp
  constructor
  · intro hn
    have : 0 < (f q).length := List.length_pos_iff.2 hn
    rw [hp] at this
    obtain ⟨y, hy⟩ := List.exists_mem_of_length_pos this
    exact ⟨y, (List.mem_filter.1 hy).1, by simpa using (List.mem_filter.1 hy).2⟩
  · rintro ⟨y, hy, e⟩ hn
    rw [hn] at hp
    have : y ∈ T.filter (fun y => decide (y.2 % S = q)) := List.mem_filter.2 ⟨hy, by simpa using e⟩
    rw [List.length_eq_zero_iff.1 hp.symm] at this
    cases this
theorem next_w (s : Ws) (J : Jl) (H : Heap) (hH : WH s J H) (T : Tl) (hT : WT s T) : SoundCall Tryd.prog 16 [.p 0 0] H (fun v H' => NxP s T v ∧ WH s J H') := by
  have hH0 := hH
  obtain ⟨b, dv, cells, D, tag, rfl, hD, hb, hm, hk⟩ := hH
  obtain ⟨k1, k2, k3, k4, k5, k6, k7, k8, k9⟩ := hk
  have hS0 : 0 < s.S := by omega
  refine (sound_func Tryd.func16 c16 rfl (Nat.le_refl _) ?_)
  simp only [e16, mvT, opT, onT, unT, clT, WHb]
  refine GG0 ?_
  (first | ((with_reducible first | apply RunP.call | apply Run.call | apply Run.call0); iterate 2 (· (simp only [go_sem, reduceIte, Nat.reduceEqDiff]; (try with_reducible exact rfl)))) | ((with_reducible first | apply Run.callY | apply RunP.callY); iterate 3 (· (simp only [go_sem, reduceIte, Nat.reduceEqDiff]; (try with_reducible exact rfl)))))
  refine (wnone _ _ _ _ _ _ _ _).mono ?_
  rintro v H' ⟨rfl, rfl⟩
  by_cases hw0 : s.wt = 0
  · have hz : (((s.wt : Nat) : Int) == 0) = true := by simp [hw0]
    (have g0 := hz; refine GG1 ?_; clear g0)
    exact ⟨.inl ⟨hw0, rfl⟩, hH0⟩
  · have hz : (((s.wt : Nat) : Int) == 0) = false := beq_false_of_ne (by omega)
    have hpS : s.c % s.S < s.S := Nat.mod_lt _ hS0
    obtain ⟨p, hp⟩ : ∃ p, p = s.c % s.S := ⟨_, rfl⟩
    (have g0 := hz; refine GG1 ?_; clear g0)
    (first | ((with_reducible first | apply RunP.call | apply Run.call | apply Run.call0); iterate 2 (· (simp only [go_sem, reduceIte, Nat.reduceEqDiff]; (try with_reducible exact rfl)))) | ((with_reducible first | apply Run.callY | apply RunP.callY); iterate 3 (· (simp only [go_sem, reduceIte, Nat.reduceEqDiff]; (try with_reducible exact rfl)))))
    refine (wplace s.S s.w s.c dv s.room s.wt s.put _ _ (by omega) k2 (by omega) (by omega)).mono ?_
    rintro v H' ⟨rfl, rfl⟩
    rw [Int.toNat_natCast, ← hp]
    rw [← hp] at hpS
    refine GG0 ?_
    (first | ((with_reducible first | apply RunP.call | apply Run.call | apply Run.call0); iterate 2 (· (simp only [go_sem, reduceIte, Nat.reduceEqDiff]; (try with_reducible exact rfl)))) | ((with_reducible first | apply Run.callY | apply RunP.callY); iterate 3 (· (simp only [go_sem, reduceIte, Nat.reduceEqDiff]; (try with_reducible exact rfl)))))
    refine sound_use (roundP b hb.ok (p : Nat)) [2, 3, 4, 5, 6] rfl (by decide) ?_ ?_ ?_ ?_ ?_; iterate 4 (· simp [-List.map_map, embAt, nm, rn_rw, rn_ro, rn_map, rn_iter, rn_dead, renL, Val.ren, wfAll, wn_rw, wn_ro, wn_map, wn_iter, wn_dead, wfL, Val.wf, Env.get, initEnv, BB.hd_ren, BB.fl_ren, BB.o2_ren, BB.o3_ren, BB.o4_ren, BB.hd_wf, BB.fl_wf, BB.o2_wf, BB.o3_wf, BB.o4_wf, BB.pad])
    rintro v C' ⟨rfl, o, ho, rfl⟩
    simp only [merge, place, after, nm, MG, Val.ren, renL, rn_rw, rn_ro, rn_map, rn_iter, rn_dead, reduceIte, Nat.reduceLT, Nat.reduceAdd, Nat.reduceSub, Nat.lt_irrefl, Nat.zero_lt_one, Nat.zero_lt_succ, BB.hd_ren, BB.fl_ren, BB.o2_ren, BB.o3_ren, BB.o4_ren, BB.hd_wf, BB.fl_wf, BB.o2_wf, BB.o3_wf, BB.o4_wf, BB.pad, ans_ren]
    rw [Int.toNat_natCast] at ho
    have hbel := hb.ok.below
    rw [hb.n] at hbel
    have hmk : ∀ q, q < s.S → (b.p q = true ↔ ∃ y ∈ T, y.2 % s.S = q) := fun q hq => (hm q hq).trans (rt_mem hT.rt hq)
    obtain ⟨y0, hy0⟩ : ∃ y, y ∈ T := List.exists_mem_of_length_pos (by rw [hT.len]; omega)
    have hmk0 := (hmk (y0.2 % s.S) (Nat.mod_lt _ hS0)).2 ⟨y0, hy0, rfl⟩
    rcases o with _ | i
    · rcases ho with ⟨i, _, e⟩ | ⟨_, h0⟩
      · cases e
      · have := h0 (y0.2 % s.S) (Nat.zero_le _)
        rw [hmk0] at this; cases this
    · obtain ⟨hi, hmi, hrd⟩ : i < s.S ∧ b.p i = true ∧ ((p ≤ i ∧ ∀ q, p ≤ q → q < i → b.p q = false) ∨ (i < p ∧ (∀ q, p ≤ q → b.p q = false) ∧ ∀ q, q < i → b.p q = false)) := by
        have hlt : ∀ q, b.p q = true → q < s.S := fun q h => by
          rcases Nat.lt_or_ge q s.S with g | g
          · exact g
          · rw [hbel q g] at h; cases h
        rcases ho with ⟨i', h1, e⟩ | ⟨h1, h2⟩
        · cases e
          exact ⟨hlt _ h1.is, h1.is, .inl ⟨h1.ge, h1.le⟩⟩
        · refine ⟨hlt _ h2.is, h2.is, .inr ⟨?_, h1, fun q h => h2.le q (Nat.zero_le _) h⟩⟩
          rcases Nat.lt_or_ge i p with g | g
          · exact g
          · have := h1 i g; rw [h2.is] at this; cases this
      obtain ⟨g1, g2, g3⟩ := round_dist hpS hi hrd
      obtain ⟨δ, hδ⟩ : ∃ δ, δ = (i + s.S - p) % s.S := ⟨_, rfl⟩
      rw [← hδ] at g1 g2 g3
      have e7 : (((i : Nat) : Int) - ((p : Nat) : Int) + ((s.S : Nat) : Int)).tmod ((s.S : Nat) : Int) = ((δ : Nat) : Int) := by
        rw [tmodN _ _ (by omega) (by omega), hδ]
        congr 2; omega
      obtain ⟨y, hy, hyi⟩ := (hmk i hi).1 hmi
      have hylo := hT.rt.lo y hy
      have hyhi := hT.rt.hi y hy
      have hym : y.2 = s.c + δ := by
        obtain ⟨d, hd⟩ : ∃ d, y.2 = s.c + d := ⟨y.2 - s.c, by omega⟩
        rw [hd] at hyi ⊢
        have e : (s.c + d) % s.S = (s.c + δ) % s.S := by rw [hyi, mod_add2, ← hp, g1]
        rw [place_inj (by omega) g2 e]
      have hall : ∀ z ∈ T, s.c + δ ≤ z.2 := fun z hz => by
        have hzlo := hT.rt.lo z hz
        have hzhi := (hT.rt.hi z hz).2
        rcases Nat.lt_or_ge z.2 (s.c + δ) with g | g
        · exfalso
          have h1 := g3 (z.2 - s.c) (by omega)
          rw [hp, ← mod_add2, show s.c + (z.2 - s.c) = z.2 by omega] at h1
          have h2 := (hmk (z.2 % s.S) (Nat.mod_lt _ hS0)).2 ⟨z, hz, rfl⟩
          rw [h1] at h2; cases h2
        · exact g
      have hmx : s.c + δ ≤ 18446744073709551615 := by
        have := hyhi.1
        unfold hiC satN at this
        omega
      have hsat : satN (s.c + δ) = s.c + δ := by unfold satN; omega
      simp only [ans]
      (have g0 := e7; refine GG1 ?_; clear g0)
      (first | ((with_reducible first | apply RunP.call | apply Run.call | apply Run.call0); iterate 2 (· (simp only [go_sem, reduceIte, Nat.reduceEqDiff]; (try with_reducible exact rfl)))) | ((with_reducible first | apply Run.callY | apply RunP.callY); iterate 3 (· (simp only [go_sem, reduceIte, Nat.reduceEqDiff]; (try with_reducible exact rfl)))))
      refine (add_ok s.c δ k5 (by omega) _).mono ?_
      rintro v H' ⟨rfl, rfl⟩
      rw [hsat]
      (first | refine And.intro rfl ?_ | refine And.intro trivial ?_ | skip)
      refine GG0 ?_
      (first | ((with_reducible first | apply RunP.call | apply Run.call | apply Run.call0); iterate 2 (· (simp only [go_sem, reduceIte, Nat.reduceEqDiff]; (try with_reducible exact rfl)))) | ((with_reducible first | apply Run.callY | apply RunP.callY); iterate 3 (· (simp only [go_sem, reduceIte, Nat.reduceEqDiff]; (try with_reducible exact rfl)))))
      refine (begin_ok (s.c + δ) s.w hmx k3 (by omega) _).mono ?_
      rintro v H' ⟨rfl, rfl⟩
      (first | refine And.intro rfl ?_ | refine And.intro trivial ?_ | skip)
      refine GG0 ?_
      exact ⟨.inr ⟨s.c + δ, hw0, ⟨y, hy, hym⟩, hall, rfl⟩, hH0⟩
end Go.Proofs.YtmdilnelogechaaDoor.IR
