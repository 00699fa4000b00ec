/- This text of a proof shows: what is taken out of a wheel's slots. -/
import Derived.Test.YtmdilnelogechaaDoorGg
import Derived.Test.YtmdilnelogechaaDoorWd
set_option linter.unusedVariables false
set_option linter.unusedSimpArgs false
set_option linter.constructorNameAsVariable false
namespace Go.Proofs.YtmdilnelogechaaDoor.IR
open Go Go.Proofs.YtmdilnelogechaaDoor.Ev Go.Proofs.YtmdilnelogechaaDoor.Ev.Rb Go.Proofs.YtmdilnelogechaaDoor.Ev.Wh Go.Proofs.YtmdilnelogechaaDoor.Ext Go.Proofs.YtmdilnelogechaaDoorW.PrintWords
set_option linter.unusedSimpArgs false
set_option linter.unusedVariables false
set_option maxHeartbeats 4000000
attribute [local go_sem] skipV nc0 nc1 nc2 nc3 bne_self_eq_false decide_true decide_false IOp.step Opd.ev Env.get initEnv Val.cells? Val.one List.all_cons List.all_nil Bool.and_true Bool.and_self Bool.true_and bin ints eqv Val.kindNo lenNo_s lenNo_nils lenNo_sl lenNo_nilm lenNo_m lenOf_s lenOf_nils lenOf_sl lenOf_nilm unary partsOf padTo List.foldl_cons List.foldl_nil wr_nil wr_step wr_zero List.set_cons_zero List.set_cons_succ List.map_cons List.map_nil z1 z2 Nat.succ_ne_zero List.length_cons List.length_nil List.cons_append List.nil_append List.append_nil List.getElem?_cons_zero List.getElem?_cons_succ List.getElem?_nil Option.map_some Option.map_none Nat.zero_add Nat.add_zero List.drop_zero List.drop_succ_cons List.take_succ_cons List.take_zero List.take_nil and_self and_true true_and Nat.le_refl Bool.not_true Bool.not_false Option.getD_some window Val.slen bnd resV resL RV.val Bool.false_eq_true BEq.rfl Bool.true_beq Bool.false_beq beq_true beq_false mk_one ite_true ite_false eqc ceqs ceq NOp.step isK eq_self
attribute [local go_sem] nat_toNat mxM mnM getC getC2 setC wr1 Nat.mul_one wC
attribute [local go_sem high] len7 get7 set7
/-- What is asked further on. -/
def Kp (ρ0 ρ : Env) : Prop := ∀ x ∈ ρ0, ρ.get x.1 = x.2
/-- All of a slice is appended to nothing, to another one. -/
theorem appNilN {e : Opd → Val} {H : Heap} {x y : Opd} {new : List Val} {sz bytes j m : Nat} (hx : e x = .nils) (hy : e y = .sl j 0 m sz) (hj : H[j]? = some (.rw new)) (hl : new.length = m * sz) (hm : m ≠ 0) (hb : m * bytes ≤ 140737488355328) :
    (IOp.app sz bytes x y).step e H = some (.sl H.length 0 m sz, H ++ [.rw new]) := by
  have hw : window H (.sl j 0 m sz) sz = some new := by
    simp only [window, if_true, hj]
    rw [if_pos (by omega), List.drop_zero, List.take_of_length_le (by omega)]
  have hw0 : window H .nils sz = some [] := rfl
  simp only [IOp.step, hx, hy, hw, hw0, Val.slen]
  rw [Nat.zero_add, if_pos hb, if_neg hm]
theorem appSlN {e : Opd → Val} {H : Heap} {x y : Opd} {c new : List Val} {id n sz bytes j m : Nat} (hx : e x = .sl id 0 n sz) (hH : H[id]? = some (.rw c)) (hc : c.length = n * sz)
    (hy : e y = .sl j 0 m sz) (hj : H[j]? = some (.rw new)) (hl : new.length = m * sz) (hb : (n + m) * bytes ≤ 140737488355328) :
    (IOp.app sz bytes x y).step e H = some (.sl H.length 0 (n + m) sz, H.set id .dead ++ [.rw (c ++ new)]) := by
  have hw : window H (.sl j 0 m sz) sz = some new := by
    simp only [window, if_true, hj]
    rw [if_pos (by omega), List.drop_zero, List.take_of_length_le (by omega)]
  have hw0 : window H (.sl id 0 n sz) sz = some c := by
    simp only [window, if_true, hH]
    rw [if_pos (by omega), List.drop_zero, List.take_of_length_le (by omega)]
  simp only [IOp.step, hx, hy, hw, hw0, Val.slen]
  rw [if_pos (by omega)]
  simp only [hH]
/-- A row of things as a slice: nil, or one that is kept. -/
def LV (lv : Val) (l : List Th) (J J' : Jl) : Prop := (lv = .nils ∧ l = [] ∧ J' = J) ∨ ∃ j, lv = .sl (j + 7) 0 l.length 3 ∧ J' = (j, .rw (thC l)) :: J ∧ ∀ x ∈ J, x.1 ≠ j
theorem WH.congr {s : Ws} {J : Jl} {H : Heap} (h : WH s J H) {f : Nat → List Th} (hf : ∀ q, q < s.S → f q = s.sl q) : WH { s with sl := f } J H := by
  obtain ⟨b, dv, cells, D, tag, rfl, hD, hb, hm, hk⟩ := h
  obtain ⟨k1, k2, k3, k4, k5, k6, k7, k8, k9⟩ := hk
  refine ⟨b, dv, cells, D, tag, rfl, ⟨hD.len, fun p hp => ?_, hD.duev, hD.keep, hD.flat⟩, hb, fun p hp => ?_, ⟨k1, k2, k3, k4, k5, k6, k7, k8, k9⟩⟩
  · have := hD.cell p hp
    rw [← hf p hp] at this
    exact this
  · show _ ↔ f p ≠ []
    rw [hf p hp]; exact hm p hp
def OutI (s : Ws) (J : Jl) (many : Nat) (n : Nat) (ρ : Env) (H : Heap) : Prop :=
  ∃ (k : Nat) (lv : Val) (J' : Jl), k ≤ 9000 ∧ n = many - k ∧ LV lv (outL s.S s.c s.sl (min k many)) J J' ∧ WH { s with sl := Wh.cut s.S s.c s.sl (min k many) } J' H ∧
    Kp [(0, .p 0 0), (5, lv), (6, .i .u64 (many : Nat)), (7, .i .u64 (k : Nat))] ρ
/-- What is left, and what came out. -/
def OutP (s : Ws) (J : Jl) (many : Nat) (v : Val) (H : Heap) : Prop :=
  ∃ J' : Jl, LV v (outL s.S s.c s.sl many) J J' ∧ WH { s with sl := Wh.cut s.S s.c s.sl many } J' H
theorem out_c (s : Ws) (J : Jl) (H : Heap) (hH : WH s J H) (tt : Nat) (h1 : s.c ≤ tt) (h2 : tt ≤ 18446744073709551615) (hl : (Wh.all s.S s.sl).length ≤ 1000000) :
    SoundCall Tryd.prog 31 [.p 0 0, .i .u64 (tt : Nat)] H (OutP s J (min (tt - s.c) (s.S - 1) + 1)) := by
  have hH0 := hH
  obtain ⟨b, dv, cells, D, tag, rfl, hD, hb, hm, hk⟩ := hH
  obtain ⟨k1, k2, k3, k4, k5, k6, k7, k8, k9⟩ := hk
  refine (sound_func Tryd.func31 c31 rfl (Nat.le_refl _) ?_)
  simp only [e31, s31, WHb]
  have e1 : ((tt : Nat) : Int) - ((s.c : Nat) : Int) = ((tt - s.c : Nat) : Int) := by omega
  have e2 : ((s.S : Nat) : Int) - 1 = ((s.S - 1 : Nat) : Int) := by omega
  have e3 : min ((tt - s.c : Nat) : Int) ((s.S - 1 : Nat) : Int) = ((min (tt - s.c) (s.S - 1) : Nat) : Int) := by omega
  have e4 : ((min (tt - s.c) (s.S - 1) : Nat) : Int) + 1 = ((min (tt - s.c) (s.S - 1) + 1 : Nat) : Int) := rfl
  (have g0 := e1; have g1 := e2; have g2 := e3; have g3 := e4; refine GG4 ?_; clear g0 g1 g2 g3)
  obtain ⟨many, hmany⟩ : ∃ many, many = min (tt - s.c) (s.S - 1) + 1 := ⟨_, rfl⟩
  have hm1 : many ≤ s.S := by omega
  have hm2 : s.c + many ≤ tt + 1 := by omega
  rw [← hmany]
  clear hD hb hm hmany e1 e2 e3 e4
  refine ei_loop (OutI s J many) (n := many) ?_ ?_
  · refine ⟨0, .nils, J, by omega, by omega, .inl ⟨rfl, by simp [outL], rfl⟩, ?_, ?_⟩
    · rw [Nat.zero_min, cut_zero]; exact hH0
    · simp [Kp, Env.get, initEnv]
  · generalize (AObj.rw (wC s.S s.w s.c dv s.room s.wt s.put) :: AObj.rw cells :: AObj.rw (b.hd 3) :: AObj.rw (b.fl 4 5 6) :: b.o2 :: b.o3 :: b.o4 :: D).length = m0
    clear hH0 b dv cells D tag
    rintro n ρ H ⟨k, lv, J', hk9, rfl, hlv, hW, hρ⟩
    refine ei_few _ hρ ?_
    clear hρ
    by_cases hkm : many ≤ k
    · rw [Nat.min_eq_right hkm] at hlv hW
      have hd : ¬ ((k : Nat) : Int) < ((many : Nat) : Int) := by omega
      (have g0 := decide_f hd; refine GG1 ?_; clear g0)
      exact ⟨J', hlv, hW⟩
    · rw [Nat.min_eq_left (by omega)] at hlv hW
      have hW0 := hW
      obtain ⟨b, dv, cells, D, tag, rfl, hD, hb, hm, hk⟩ := hW
      have hd : ((k : Nat) : Int) < ((many : Nat) : Int) := by omega
      have hsat : satN (s.c + k) = s.c + k := by unfold satN; omega
      simp only [WHb]
      (have g0 := decide_t hd; refine GG1 ?_; clear g0)
      (first | ((with_reducible first | apply RunP.call | apply Run.call | apply Run.call0); iterate 2 (· (simp only [go_sem, reduceIte, Nat.reduceEqDiff]; (try with_reducible exact rfl)))) | ((with_reducible first | apply Run.callY | apply RunP.callY); iterate 3 (· (simp only [go_sem, reduceIte, Nat.reduceEqDiff]; (try with_reducible exact rfl)))))
      refine (add_ok s.c k k5 (by omega) _).mono ?_
      rintro v H' ⟨rfl, rfl⟩
      rw [hsat]
      refine GG0 ?_
      (first | ((with_reducible first | apply RunP.call | apply Run.call | apply Run.call0); iterate 2 (· (simp only [go_sem, reduceIte, Nat.reduceEqDiff]; (try with_reducible exact rfl)))) | ((with_reducible first | apply Run.callY | apply RunP.callY); iterate 3 (· (simp only [go_sem, reduceIte, Nat.reduceEqDiff]; (try with_reducible exact rfl)))))
      refine (wplace s.S s.w s.c dv s.room s.wt s.put _ _ (by omega) k2 (by omega) (by omega)).mono ?_
      rintro v H' ⟨rfl, rfl⟩
      rw [Int.toNat_natCast]
      have hpS : (s.c + k) % s.S < s.S := Nat.mod_lt _ (by omega)
      obtain ⟨p, hp⟩ : ∃ p, p = (s.c + k) % s.S := ⟨_, rfl⟩
      rw [← hp] at hpS ⊢
      refine GG0 ?_
      (first | ((with_reducible first | apply RunP.call | apply Run.call | apply Run.call0); iterate 2 (· (simp only [go_sem, reduceIte, Nat.reduceEqDiff]; (try with_reducible exact rfl)))) | ((with_reducible first | apply Run.callY | apply RunP.callY); iterate 3 (· (simp only [go_sem, reduceIte, Nat.reduceEqDiff]; (try with_reducible exact rfl)))))
      refine sound_use (roundP b hb.ok (p : Nat)) [2, 3, 4, 5, 6] rfl (by decide) ?_ ?_ ?_ ?_ ?_; iterate 4 (· simp [-List.map_map, embAt, nm, rn_rw, rn_ro, rn_map, rn_iter, rn_dead, renL, Val.ren, wfAll, wn_rw, wn_ro, wn_map, wn_iter, wn_dead, wfL, Val.wf, Env.get, initEnv, BB.hd_ren, BB.fl_ren, BB.o2_ren, BB.o3_ren, BB.o4_ren, BB.hd_wf, BB.fl_wf, BB.o2_wf, BB.o3_wf, BB.o4_wf, BB.pad])
      rintro v C' ⟨rfl, o, ho, rfl⟩
      simp only [merge, place, after, nm, MG, Val.ren, renL, rn_rw, rn_ro, rn_map, rn_iter, rn_dead, reduceIte, Nat.reduceLT, Nat.reduceAdd, Nat.reduceSub, Nat.lt_irrefl, Nat.zero_lt_one, Nat.zero_lt_succ, BB.hd_ren, BB.fl_ren, BB.o2_ren, BB.o3_ren, BB.o4_ren, BB.hd_wf, BB.fl_wf, BB.o2_wf, BB.o3_wf, BB.o4_wf, BB.pad, ans_ren]
      rw [Int.toNat_natCast] at ho
      have hbn := hb.n
      have hbel := hb.ok.below
      rw [hbn] at hbel
      have hun : ∀ q, b.p q = false → q < s.S → Wh.cut s.S s.c s.sl k q = [] := fun q h hq => by
        have := hm q hq
        rw [h] at this
        simpa using this
      have hskip : ∀ d, k ≤ d → d < s.S → Wh.cut s.S s.c s.sl k ((s.c + d) % s.S) = [] → s.sl ((s.c + d) % s.S) = [] := fun d h1 h2 h3 => by
        rwa [cut_at h2 h1] at h3
      rcases o with _ | i
      · have hno : ∀ q, b.p q = false := by
          rcases ho with ⟨i, _, e⟩ | ⟨_, h0⟩
          · cases e
          · exact fun q => h0 q (Nat.zero_le _)
        have hsk : ∀ d, k ≤ d → d < k + (many - k) → s.sl ((s.c + d) % s.S) = [] := fun d h1 h2 => hskip d h1 (by omega) (hun _ (hno _) (Nat.mod_lt _ (by omega)))
        have e5 : k + (many - k) = many := by omega
        have e6 := outL_skip (S := s.S) (c := s.c) (f := s.sl) (many - k) hsk
        rw [e5] at e6
        simp only [ans]
        refine GG0 ?_
        refine ⟨J', by rw [e6]; exact hlv, ?_⟩
        refine WH.congr (s := { s with sl := Wh.cut s.S s.c s.sl k }) ⟨b, dv, cells, D, tag, rfl, hD, hb, hm, hk⟩ fun q hq => ?_
        have := cut_skip (S := s.S) (c := s.c) (f := s.sl) (n := k) (k := many - k) hq hsk
        rw [e5] at this
        exact this
      · obtain ⟨hi, hmi, hrd⟩ : i < s.S ∧ b.p i = true ∧ ((p ≤ i ∧ ∀ q, p ≤ q → q < i → b.p q = false) ∨ (i < p ∧ (∀ q, p ≤ q → b.p q = false) ∧ ∀ q, q < i → b.p q = false)) := by
          have hlt : ∀ q, b.p q = true → q < s.S := fun q h => by
            rcases Nat.lt_or_ge q s.S with g | g
            · exact g
            · rw [hbel q g] at h; cases h
          rcases ho with ⟨i', h1, e⟩ | ⟨h1, h2⟩
          · cases e
            exact ⟨hlt _ h1.is, h1.is, .inl ⟨h1.ge, h1.le⟩⟩
          · refine ⟨hlt _ h2.is, h2.is, .inr ⟨?_, h1, fun q h => h2.le q (Nat.zero_le _) h⟩⟩
            rcases Nat.lt_or_ge i p with g | g
            · exact g
            · have := h1 i g; rw [h2.is] at this; cases this
        obtain ⟨g1, g2, g3⟩ := round_dist hpS hi hrd
        obtain ⟨δ, hδ⟩ : ∃ δ, δ = (i + s.S - p) % s.S := ⟨_, rfl⟩
        rw [← hδ] at g1 g2 g3
        have e7 : (((i : Nat) : Int) - ((p : Nat) : Int) + ((s.S : Nat) : Int)).tmod ((s.S : Nat) : Int) = ((δ : Nat) : Int) := by
          rw [tmodN _ _ (by omega) (by omega), hδ]
          congr 2; omega
        have e8 : ((k : Nat) : Int) + ((δ : Nat) : Int) = ((k + δ : Nat) : Int) := rfl
        have e9 : ((k + δ : Nat) : Int) + 1 = ((k + δ + 1 : Nat) : Int) := rfl
        have hci : (s.c + (k + δ)) % s.S = i := by rw [← Nat.add_assoc, mod_add2, ← hp, g1]
        have hne : Wh.cut s.S s.c s.sl k i ≠ [] := (hm i hi).1 hmi
        have hkd : k + δ < s.S := by
          rcases Nat.lt_or_ge (k + δ) s.S with g | g
          · exact g
          · exfalso
            have e : (s.c + (k + δ - s.S)) % s.S = i := by
              rw [← hci, show s.c + (k + δ) = s.c + (k + δ - s.S) + s.S by omega, Nat.add_mod_right]
            have hd := dN_place (S := s.S) (c := s.c) (d := k + δ - s.S) (by omega)
            rw [e] at hd
            apply hne
            unfold Wh.cut
            rw [hd, if_pos (by omega)]
        have hsk : ∀ d, k ≤ d → d < k + δ → s.sl ((s.c + d) % s.S) = [] := fun d h1 h2 => by
          refine hskip d h1 (by omega) (hun _ ?_ (Nat.mod_lt _ (by omega)))
          have := g3 (d - k) (by omega)
          rw [hp, ← mod_add2, show s.c + k + (d - k) = s.c + d by omega] at this
          exact this
        simp only [ans]
        (have g0 := e7; have g1 := e8; refine GG2 ?_; clear g0 g1)
        by_cases hkm2 : k + δ < many
        · have hd2 : ((k + δ : Nat) : Int) < ((many : Nat) : Int) := by omega
          have hsi : Wh.cut s.S s.c s.sl k i = s.sl i := by
            have := cut_at (S := s.S) (c := s.c) (f := s.sl) (n := k) (d := k + δ) hkd (by omega)
            rw [hci] at this; exact this
          have hout : outL s.S s.c s.sl (k + δ + 1) = outL s.S s.c s.sl k ++ s.sl i := by
            rw [outL_succ, hci, outL_skip δ hsk]
          have hcut : ∀ q, q < s.S → Wh.cut s.S s.c s.sl (k + δ + 1) q = if q = i then [] else Wh.cut s.S s.c s.sl k q := fun q hq => by
            rw [cut_succ hq hkd, hci, cut_skip hq hsk]
          have hil : (s.sl i).length ≤ 1000000 := Nat.le_trans (len_all hi) hl
          have hcl := hD.len
          replace hcl : cells.length = s.S := hcl
          have hgood := good_clear hb (i := (i : Nat)) (by rw [BB.has_p]; exact hmi)
          have hmk : ∀ q, q < s.S → ((b.clear ((i : Nat) : Int).toNat).p q = true ↔ (if q = i then [] else Wh.cut s.S s.c s.sl k q) ≠ []) := fun q hq => by
            show (upd b.p i false) q = true ↔ _
            unfold upd
            by_cases e : q = i
            · simp [e]
            · simp only [if_neg e]; exact hm q hq
          obtain ⟨j, hj1, hj2, hj3⟩ : ∃ j, tag j = i ∧ cells[i]? = some (.sl (j + 7) 0 (s.sl i).length 3) ∧ D[j]? = some (.rw (thC (s.sl i))) := by
            rcases hD.cell i hi with ⟨h, _⟩ | ⟨j, h1, h2, h3⟩
            · exact absurd h hne
            · have e : ({ s with sl := Wh.cut s.S s.c s.sl k } : Ws).sl i = s.sl i := hsi
              rw [e] at h2 h3
              exact ⟨j, h1, h2, h3⟩
          have hn0 : (s.sl i).length ≠ 0 := fun h => hne (by rw [hsi]; exact List.length_eq_zero_iff.1 h)
          have hmin : min (k + δ + 1) many = k + δ + 1 := by omega
          rcases hlv with ⟨rfl, hl0, rfl⟩ | ⟨jl, rfl, rfl, hJn⟩
          · (have g0 := decide_t hd2; have g1 := hj2; refine GG2 ?_; clear g0 g1)
            refine Aa (appNilN (j := j + 7) (m := (s.sl i).length) (new := thC (s.sl i)) (by (simp only [go_sem, reduceIte, Nat.reduceEqDiff]; (try with_reducible exact rfl))) (by (simp only [go_sem, reduceIte, Nat.reduceEqDiff]; (try with_reducible exact rfl))) (by (simp only [go_sem, reduceIte, Nat.reduceEqDiff, hj3]; (try with_reducible exact rfl))) (thC_len _) hn0 (by omega)) ?_
            refine GG0 ?_
            (first | ((with_reducible first | apply RunP.call | apply Run.call | apply Run.call0); iterate 2 (· (simp only [go_sem, reduceIte, Nat.reduceEqDiff]; (try with_reducible exact rfl)))) | ((with_reducible first | apply Run.callY | apply RunP.callY); iterate 3 (· (simp only [go_sem, reduceIte, Nat.reduceEqDiff]; (try with_reducible exact rfl)))))
            refine sound_use (clearP b hb.ok (i : Nat) (fun h => good_pos hb h)) [2, 3, 4, 5, 6] rfl (by decide) ?_ ?_ ?_ ?_ ?_; iterate 4 (· simp [-List.map_map, embAt, nm, rn_rw, rn_ro, rn_map, rn_iter, rn_dead, renL, Val.ren, wfAll, wn_rw, wn_ro, wn_map, wn_iter, wn_dead, wfL, Val.wf, Env.get, initEnv, BB.hd_ren, BB.fl_ren, BB.o2_ren, BB.o3_ren, BB.o4_ren, BB.hd_wf, BB.fl_wf, BB.o2_wf, BB.o3_wf, BB.o4_wf, BB.pad])
            rintro v C' ⟨b', _, _, _, rfl, hcase⟩
            simp only [merge, place, after, nm, MG, Val.ren, renL, rn_rw, rn_ro, rn_map, rn_iter, rn_dead, reduceIte, Nat.reduceLT, Nat.reduceAdd, Nat.reduceSub, Nat.lt_irrefl, Nat.zero_lt_one, Nat.zero_lt_succ, BB.hd_ren, BB.fl_ren, BB.o2_ren, BB.o3_ren, BB.o4_ren, BB.hd_wf, BB.fl_wf, BB.o2_wf, BB.o3_wf, BB.o4_wf, BB.pad]
            rcases hcase with ⟨_, rfl, rfl⟩ | ⟨h, _, _⟩
            · (have g0 := e9; refine GG1 ?_; clear g0)
              refine ⟨many - (k + δ + 1), by omega, k + δ + 1, .sl (D.length + 7) 0 (s.sl i).length 3, (D.length, .rw (thC (s.sl i))) :: J', by omega, rfl, ?_, ?_, ?_⟩
              · rw [hmin, hout, hl0, List.nil_append]
                exact .inr ⟨D.length, rfl, rfl, fun x hx => by have := get_lt (hD.keep x hx).2; omega⟩
              · rw [hmin]
                have hW := (hD.pushK (o := .rw (thC (s.sl i))) (thC_wf 0 _)).clr hi
                exact WH.congr (s := Ws.clr { s with sl := Wh.cut s.S s.c s.sl k } i) ⟨_, dv, _, _, _, rfl, hW, hgood, hmk, ⟨k1, k2, k3, k4, k5, k6, k7, k8, k9⟩⟩ hcut
              · simp [Kp, Env.get]
            · rw [BB.has_p] at h; rw [h] at hmi; cases hmi
          · obtain ⟨hjt, hjo⟩ := hD.keep (jl, .rw (thC (outL s.S s.c s.sl k))) (by simp)
            have hjlt := get_lt hjo
            have hlen : (outL s.S s.c s.sl k).length + (s.sl i).length ≤ 4100000000 := by
              have h1 : (outL s.S s.c s.sl k).length ≤ k * 1000000 := by
                have key : ∀ n, n ≤ s.S → (outL s.S s.c s.sl n).length ≤ n * 1000000 := by
                  intro n
                  induction n with
                  | zero => intro _; simp [outL]
                  | succ n ih =>
                    intro hn
                    have := ih (by omega)
                    have h3 := len_all (S := s.S) (f := s.sl) (q := (s.c + n) % s.S) (Nat.mod_lt _ (by omega))
                    rw [outL_succ, List.length_append]; omega
                exact key k (by omega)
              omega
            (have g0 := decide_t hd2; have g1 := hj2; refine GG2 ?_; clear g0 g1)
            refine Aa (appSlN (id := jl + 7) (j := j + 7) (n := (outL s.S s.c s.sl k).length) (m := (s.sl i).length) (c := thC (outL s.S s.c s.sl k)) (new := thC (s.sl i)) (by (simp only [go_sem, reduceIte, Nat.reduceEqDiff]; (try with_reducible exact rfl))) (by (simp only [go_sem, reduceIte, Nat.reduceEqDiff, hjo]; (try with_reducible exact rfl))) (thC_len _) (by (simp only [go_sem, reduceIte, Nat.reduceEqDiff]; (try with_reducible exact rfl))) (by (simp only [go_sem, reduceIte, Nat.reduceEqDiff, hj3]; (try with_reducible exact rfl))) (thC_len _) (by omega)) ?_
            refine GG0 ?_
            (first | ((with_reducible first | apply RunP.call | apply Run.call | apply Run.call0); iterate 2 (· (simp only [go_sem, reduceIte, Nat.reduceEqDiff]; (try with_reducible exact rfl)))) | ((with_reducible first | apply Run.callY | apply RunP.callY); iterate 3 (· (simp only [go_sem, reduceIte, Nat.reduceEqDiff]; (try with_reducible exact rfl)))))
            refine sound_use (clearP b hb.ok (i : Nat) (fun h => good_pos hb h)) [2, 3, 4, 5, 6] rfl (by decide) ?_ ?_ ?_ ?_ ?_; iterate 4 (· simp [-List.map_map, embAt, nm, rn_rw, rn_ro, rn_map, rn_iter, rn_dead, renL, Val.ren, wfAll, wn_rw, wn_ro, wn_map, wn_iter, wn_dead, wfL, Val.wf, Env.get, initEnv, BB.hd_ren, BB.fl_ren, BB.o2_ren, BB.o3_ren, BB.o4_ren, BB.hd_wf, BB.fl_wf, BB.o2_wf, BB.o3_wf, BB.o4_wf, BB.pad])
            rintro v C' ⟨b', _, _, _, rfl, hcase⟩
            simp only [merge, place, after, nm, MG, Val.ren, renL, rn_rw, rn_ro, rn_map, rn_iter, rn_dead, reduceIte, Nat.reduceLT, Nat.reduceAdd, Nat.reduceSub, Nat.lt_irrefl, Nat.zero_lt_one, Nat.zero_lt_succ, BB.hd_ren, BB.fl_ren, BB.o2_ren, BB.o3_ren, BB.o4_ren, BB.hd_wf, BB.fl_wf, BB.o2_wf, BB.o3_wf, BB.o4_wf, BB.pad]
            rcases hcase with ⟨_, rfl, rfl⟩ | ⟨h, _, _⟩
            · (have g0 := e9; refine GG1 ?_; clear g0)
              have hdl : (D.set jl .dead).length = D.length := by simp
              refine ⟨many - (k + δ + 1), by omega, k + δ + 1, .sl (D.length + 7) 0 ((outL s.S s.c s.sl k).length + (s.sl i).length) 3, (D.length, .rw (thC (outL s.S s.c s.sl k ++ s.sl i))) :: J, by omega, rfl, ?_, ?_, ?_⟩
              · rw [hmin, hout]
                exact .inr ⟨D.length, by rw [List.length_append], rfl, fun x hx => by have := get_lt (hD.keep x (by simp [hx])).2; omega⟩
              · rw [hmin]
                have hW := ((hD.setK (J' := J) hjt (o := .dead) rfl hjlt (fun x hx => .inl ⟨by simp [hx], hJn x hx⟩)).pushK (o := .rw (thC (outL s.S s.c s.sl k ++ s.sl i))) (thC_wf 0 _)).clr hi
                rw [hdl, thC_app] at hW
                rw [thC_app]
                exact WH.congr (s := Ws.clr { s with sl := Wh.cut s.S s.c s.sl k } i) ⟨_, dv, _, _, _, rfl, hW, hgood, hmk, ⟨k1, k2, k3, k4, k5, k6, k7, k8, k9⟩⟩ hcut
              · simp [Kp, Env.get]
            · rw [BB.has_p] at h; rw [h] at hmi; cases hmi
        · have hd2 : ¬ ((k + δ : Nat) : Int) < ((many : Nat) : Int) := by omega
          (have g0 := decide_f hd2; have g1 := e9; refine GG2 ?_; clear g0 g1)
          refine ⟨many - (k + δ + 1), by omega, k + δ + 1, lv, J', by omega, rfl, ?_, ?_, ?_⟩
          · rw [Nat.min_eq_right (by omega)]
            have e6 := outL_skip (S := s.S) (c := s.c) (f := s.sl) (many - k) (fun d h1 h2 => hsk d h1 (by omega))
            rw [show k + (many - k) = many by omega] at e6
            rw [e6]; exact hlv
          · rw [Nat.min_eq_right (by omega)]
            refine WH.congr (s := { s with sl := Wh.cut s.S s.c s.sl k }) ⟨b, dv, cells, D, tag, rfl, hD, hb, hm, hk⟩ fun q hq => ?_
            have := cut_skip (S := s.S) (c := s.c) (f := s.sl) (n := k) (k := many - k) hq (fun d h1 h2 => hsk d h1 (by omega))
            rw [show k + (many - k) = many by omega] at this
            exact this
          · simp [Kp, Env.get]
end Go.Proofs.YtmdilnelogechaaDoor.IR
