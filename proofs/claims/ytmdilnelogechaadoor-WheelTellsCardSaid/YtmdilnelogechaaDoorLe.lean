/- This text of a proof shows: the document's wheel: Advance, step by step. -/
import Derived.Test.YtmdilnelogechaaDoorGg
import Derived.Test.YtmdilnelogechaaDoorLa
import Derived.Test.YtmdilnelogechaaDoorSe
import Derived.Test.YtmdilnelogechaaDoorGk
set_option linter.unusedVariables false
set_option linter.unusedSimpArgs false
set_option linter.constructorNameAsVariable false
namespace Go.Proofs.YtmdilnelogechaaDoor.IR
open Go Go.Proofs.YtmdilnelogechaaDoor.Ev Go.Proofs.YtmdilnelogechaaDoor.Ev.Rb Go.Proofs.YtmdilnelogechaaDoor.Ev.Wh Go.Proofs.YtmdilnelogechaaDoor.Ext Go.Proofs.YtmdilnelogechaaDoorW.PrintWords
set_option linter.unusedSimpArgs false
set_option linter.unusedVariables false
set_option maxHeartbeats 4000000
attribute [local go_sem] skipV nc0 nc1 nc2 nc3 bne_self_eq_false decide_true decide_false IOp.step Opd.ev Env.get initEnv Val.cells? Val.one List.all_cons List.all_nil Bool.and_true Bool.and_self Bool.true_and bin ints eqv Val.kindNo lenNo_s lenNo_nils lenNo_sl lenNo_nilm lenNo_m lenOf_s lenOf_nils lenOf_sl lenOf_nilm unary partsOf padTo List.foldl_cons List.foldl_nil wr_nil wr_step wr_zero List.set_cons_zero List.set_cons_succ List.map_cons List.map_nil z1 z2 Nat.succ_ne_zero List.length_cons List.length_nil List.cons_append List.nil_append List.append_nil List.getElem?_cons_zero List.getElem?_cons_succ List.getElem?_nil Option.map_some Option.map_none Nat.zero_add Nat.add_zero List.drop_zero List.drop_succ_cons List.take_succ_cons List.take_zero List.take_nil and_self and_true true_and Nat.le_refl Bool.not_true Bool.not_false Option.getD_some window Val.slen bnd resV resL RV.val Bool.false_eq_true BEq.rfl Bool.true_beq Bool.false_beq beq_true beq_false mk_one ite_true ite_false eqc ceqs ceq NOp.step isK eq_self
attribute [local go_sem] nat_toNat gA gA0 sA sA0 List.append_assoc List.length_append List.length_set Nat.add_assoc Nat.sub_zero wr1
attribute [local go_sem high] slV_one slV_no dw_all dw_all2 dw_all3
def RaI (H : Heap) (X Z : AObj) (L0 : Tl) (D : List Int) (t : Nat) (n : Nat) (ρ : Env) (H' : Heap) : Prop :=
  ∃ (N : Heap) (jl jd : Nat) (L1 : Tl) (dl : List Th), n = L1.length ∧ H' = H ++ N ∧ AH N jl jd L1 (D ++ vs dl) X Z ∧ RaP L0 t L1 dl ∧ dl.length + L1.length = L0.length ∧
    Kp [(2, .p H.length 0), (4, .p (H.length + 1) 0), (6, .sl (H.length + jl) 0 L1.length 3), (7, .sl (H.length + jd) 0 (D.length + dl.length) 1), (8, .i .i64 (dl.length : Nat))] ρ
def RaB (H N : Heap) (jl jd : Nat) (L1 : Tl) (D : List Int) (dl : List Th) (t : Nat) (n : Nat) (ρ : Env) (H' : Heap) : Prop :=
  ∃ (i : Nat) (b : Option Nat), i ≤ L1.length ∧ n = L1.length - i ∧ H' = H ++ N ∧ BstP L1 t i b ∧
    Kp [(2, .p H.length 0), (4, .p (H.length + 1) 0), (6, .sl (H.length + jl) 0 L1.length 3), (7, .sl (H.length + jd) 0 (D.length + dl.length) 1), (8, .i .i64 (dl.length : Nat)), (9, .i .i64 (bstV b)), (10, .i .i64 (i : Nat))] ρ
def RaU (H : Heap) (X Z : AObj) (S t : Nat) (jl jd : Nat) (L1 : Tl) (D : List Int) (dl : List Th) (n : Nat) (ρ : Env) (H' : Heap) : Prop :=
  ∃ (q : Nat) (N : Heap), q ≤ L1.length ∧ n = L1.length - q ∧ H' = H ++ N ∧ AH N jl jd ((L1.take q).map (rup S t) ++ L1.drop q) (D ++ vs dl) X Z ∧
    Kp [(2, .p H.length 0), (4, .p (H.length + 1) 0), (6, .sl (H.length + jl) 0 L1.length 3), (7, .sl (H.length + jd) 0 (D.length + dl.length) 1), (8, .i .i64 (dl.length : Nat)), (11, .i .i64 (q : Nat))] ρ
theorem radv_ok (S w room c : Nat) (oL oD : Option (Nat × Nat)) (L : Tl) (D : List Int) (H : Heap) (hL : LSl H oL L) (hD : DuS H oD D) (hl : L.length + D.length ≤ 100000) (hS1 : 1 ≤ S) (hS2 : S ≤ 4096) (hw1 : 1 ≤ w) (hw : w ≤ 18446744073709551615) (hc : c ≤ 18446744073709551615) (now : Nat) (hnow : now ≤ 18446744073709551615)
    (hall : ∀ y ∈ L, 0 ≤ y.1.1 ∧ y.1.1 ≤ 18446744073709551615) (hs : L.Pairwise fun x y => x.1.2.1 < y.1.2.1) (t : Nat) (ht : t = max c (now / w)) :
    SoundCall Tryd.prog 23 [.agg (dwV S w room c (slV oL L.length 3) (slV oD D.length 1)), .i .u64 (now : Nat)] H (fun v H' => ∃ dl L1 j j2 N, v = .tup [.agg (dwV S w room t (slV (some (j, 0)) L1.length 3) (slV (some (j2, 0)) (D.length + dl.length) 1)), .i .i64 (dl.length : Nat)] ∧ H' = H ++ N ∧ H.length ≤ j ∧ H.length ≤ j2 ∧
      H'[j]? = some (.rw (lC (L1.map (rup S t)))) ∧ H'[j2]? = some (.rw (n64 (D ++ vs dl))) ∧ RaP L t L1 dl ∧ ∀ y ∈ L1, ((t : Nat) : Int) < y.1.1) := by
  refine (sound_func Tryd.func23 c23 rfl (Nat.le_refl _) ?_)
  simp only [e23, s23, dwV]
  have e3 := slV_slen hL.no 3
  have e4 := slV_slen hD.no 1
  have hwin := hL.win
  have hwin2 := hD.win
  have hz : ¬ ((w : Nat) : Int) = 0 := by omega
  have e1 : ((now : Nat) : Int).tdiv ((w : Nat) : Int) = ((now / w : Nat) : Int) := by rw [← Int.ofNat_tdiv]
  have e1b : ((now : Nat) : Int) / ((w : Nat) : Int) = ((now / w : Nat) : Int) := rfl
  have hqn : now / w ≤ now := Nat.div_le_self _ _
  generalize now / w = qn at e1 e1b hqn ht
  refine GN0 ?_
  refine ei_mid2 (M := fun ρ' H' => H' = H ++ [AObj.rw [.i .i64 (S : Nat), .i .u64 (w : Nat), .i .i64 (room : Nat), .i .u64 (t : Nat), slV oL L.length 3, slV oD D.length 1], AObj.rw [.i .i64 0, .i .u64 0, .i .i64 0, .i .u64 0, .nils, .nils]] ∧ Kp [(2, .p H.length 0), (4, .p (H.length + 1) 0)] ρ') ?_ ?_
  · refine ei_dregD ?_
    by_cases hgt : c < qn
    · obtain rfl : t = qn := by omega
      have d : ((t : Nat) : Int) > ((c : Nat) : Int) := by omega
      (have g0 := e1; have g1 := e1b; have g2 := decide_t d; refine GD3 ?_; clear g0 g1 g2)
      (have g0 := e1; have g1 := e1b; refine GG2 ?_; clear g0 g1)
      refine ⟨rfl, ?_⟩
      simp [Kp, Env.get, initEnv]
    · obtain rfl : t = c := by omega
      have d : ¬ ((qn : Nat) : Int) > ((t : Nat) : Int) := by omega
      (have g0 := e1; have g1 := e1b; have g2 := decide_f d; refine GD3 ?_; clear g0 g1 g2)
      refine GG0 ?_
      refine ⟨rfl, ?_⟩
      simp [Kp, Env.get, initEnv]
  have htm : t ≤ 18446744073709551615 := by omega
  clear e1 e1b hqn ht hc hnow
  rintro ρ H1 ⟨rfl, hρ⟩
  refine ei_few _ hρ ?_
  clear hρ
  refine GG0 ?_
  refine Aa ((appE (id := H.length + 2) (n := 0) (c := []) (vy := slV oL L.length 3) (m := L.length) (new := lC L) (by (simp only [go_sem, reduceIte, Nat.reduceEqDiff]; (try with_reducible exact rfl))) (by (simp only [go_sem, reduceIte, Nat.reduceEqDiff]; (try with_reducible exact rfl))) rfl (by (simp only [go_sem, reduceIte, Nat.reduceEqDiff]; (try with_reducible exact rfl))) (by first | exact hwin _ | (simp only [List.append_assoc]; exact hwin _)) e3 (by omega)).trans (by simp only [sA, List.length_append, List.append_assoc, List.set_cons_succ, List.set_cons_zero, List.cons_append, List.nil_append, List.length_cons, List.length_nil, Nat.reduceAdd, Nat.zero_add, Nat.add_assoc]; exact rfl)) ?_
  refine GG0 ?_
  refine Aa ((appE (id := H.length + 4) (n := 0) (c := []) (vy := slV oD D.length 1) (m := D.length) (new := n64 D) (by (simp only [go_sem, reduceIte, Nat.reduceEqDiff]; (try with_reducible exact rfl))) (by (simp only [go_sem, reduceIte, Nat.reduceEqDiff]; (try with_reducible exact rfl))) rfl (by (simp only [go_sem, reduceIte, Nat.reduceEqDiff]; (try with_reducible exact rfl))) (by first | exact hwin2 _ | (simp only [List.append_assoc]; exact hwin2 _)) e4 (by omega)).trans (by simp only [sA, List.length_append, List.append_assoc, List.set_cons_succ, List.set_cons_zero, List.cons_append, List.nil_append, List.length_cons, List.length_nil, Nat.reduceAdd, Nat.zero_add, Nat.add_assoc]; exact rfl)) ?_
  refine GG0 ?_
  refine ei_loop (RaI H (AObj.rw [.i .i64 (S : Nat), .i .u64 (w : Nat), .i .i64 (room : Nat), .i .u64 (t : Nat), slV oL L.length 3, slV oD D.length 1]) (AObj.rw [.i .i64 0, .i .u64 0, .i .i64 0, .i .u64 0, .nils, .nils]) L D t) (n := L.length) ?_ ?_
  · refine ⟨_, 3, 5, L, [], rfl, rfl, ⟨rfl, by simp [vs], rfl, rfl, by omega, by omega, by omega⟩, RaP.init L t, by simp, ?_⟩
    simp [Kp, Env.get]
  · rintro n ρ H1 ⟨N, jl, jd, L1, dl, rfl, rfl, ha, hp, hlen, hρ⟩
    refine ei_few _ hρ ?_
    clear hρ
    have hl0 := ha.l
    have hx0 := ha.x
    have hd0 := ha.d
    have hz0 := ha.z
    refine GG0 ?_
    refine ei_loop (RaB H N jl jd L1 D dl t) (n := L1.length) ?_ ?_
    · refine ⟨0, none, Nat.zero_le _, rfl, rfl, fun q y h => absurd h (Nat.not_lt_zero _), ?_⟩
      simp [Kp, Env.get, bstV]
    · rintro n ρ H1 ⟨i, b, hi, rfl, rfl, hb, hρ⟩
      refine ei_few _ hρ ?_
      clear hρ
      by_cases hil : i = L1.length
      · subst hil
        have hz1 : ¬ (((L1.length : Nat) : Int) < ((L1.length : Nat) : Int)) := by omega
        rcases b with _ | b
        · have hneg : ((-1 : Int) < 0) := by omega
          simp only [bstV]
          (have g0 := decide_f hz1; have g1 := decide_t hneg; refine GG2 ?_; clear g0 g1)
          refine ei_loop (RaU H (AObj.rw [.i .i64 (S : Nat), .i .u64 (w : Nat), .i .i64 (room : Nat), .i .u64 (t : Nat), slV oL L.length 3, slV oD D.length 1]) (AObj.rw [.i .i64 0, .i .u64 0, .i .i64 0, .i .u64 0, .nils, .nils]) S t jl jd L1 D dl) (n := L1.length) ?_ ?_
          · refine ⟨0, N, Nat.zero_le _, rfl, rfl, ?_, ?_⟩
            · simpa using ha
            · simp [Kp, Env.get]
          · clear ha hl0 hx0 hd0 hz0 N
            rintro n ρ H1 ⟨q, N, hq, rfl, rfl, ha, hρ⟩
            refine ei_few _ hρ ?_
            clear hρ
            have hl0 := ha.l
            have hx0 := ha.x
            have hd0 := ha.d
            have hz0 := ha.z
            by_cases hql : q = L1.length
            · subst hql
              have hz2 : ¬ (((L1.length : Nat) : Int) < ((L1.length : Nat) : Int)) := by omega
              rw [List.take_length, List.drop_length, List.append_nil] at ha
              obtain ⟨kl, rfl⟩ : ∃ k, jl = k + 2 := ⟨jl - 2, by have := ha.l2; omega⟩
              obtain ⟨kd, rfl⟩ : ∃ k, jd = k + 2 := ⟨jd - 2, by have := ha.d2; omega⟩
              obtain ⟨M, rfl⟩ : ∃ M, N = AObj.rw [.i .i64 (S : Nat), .i .u64 (w : Nat), .i .i64 (room : Nat), .i .u64 (t : Nat), slV oL L.length 3, slV oD D.length 1] :: AObj.rw [.i .i64 0, .i .u64 0, .i .i64 0, .i .u64 0, .nils, .nils] :: M := by
                rcases N with _ | ⟨a, _ | ⟨b, M⟩⟩
                · simp at hx0
                · simp at hz0
                · simp at hx0 hz0
                  exact ⟨M, by rw [hx0, hz0]⟩
              have hal := ha.l
              have had := ha.d
              clear ha hl0 hx0 hd0 hz0
              (have g0 := decide_f hz2; refine GG1 ?_; clear g0)
              refine ⟨dl, L1, H.length + (kl + 2), H.length + (kd + 2), _, rfl, rfl, Nat.le_add_right _ _, Nat.le_add_right _ _, ?_, ?_, hp, fun y hy => ?_⟩
              · rw [gA]; exact hal
              · rw [gA]; exact had
              · obtain ⟨q, hq, e⟩ := List.getElem_of_mem hy
                exact hb q y hq (by rw [← e]; exact List.getElem?_eq_getElem hq)
            · have hz2 : (((q : Nat) : Int) < ((L1.length : Nat) : Int)) := by omega
              have eqn1 : ((q : Nat) : Int) + 1 = ((q + 1 : Nat) : Int) := rfl
              obtain ⟨y, hy⟩ : ∃ y, L1[q]? = some y := ⟨L1[q], List.getElem?_eq_getElem (by omega)⟩
              have hyL := hall y (hp.sub.subset (List.mem_of_getElem? hy))
              obtain ⟨y1, y2⟩ := y
              obtain ⟨ys, yn, yv⟩ := y1
              obtain ⟨sl, rfl⟩ : ∃ sl : Nat, ys = (sl : Nat) := ⟨ys.toNat, by have := hyL.1; simp only at this; omega⟩
              have hsl : sl ≤ 18446744073709551615 := by have := hyL.2; simp only at this; omega
              have hgq := rup_get S t L1 q _ hy
              have hrs := rup_set S t L1 q _ hy
              have hLl : ((L1.take q).map (rup S t) ++ L1.drop q).length = L1.length := by simp; omega
              obtain ⟨Lq, hLq⟩ : ∃ Lq, Lq = (L1.take q).map (rup S t) ++ L1.drop q := ⟨_, rfl⟩
              rw [← hLq] at hgq hrs hLl hl0 ha
              have hcl : (lC Lq).length = L1.length * 3 := by rw [lC_len, hLl]
              have hc1 := (lC_get Lq q _ hgq).2.1
              have hc2 := (lC_get Lq q _ hgq).2.2
              simp only at hc1 hc2
              by_cases hat : y2 ≤ t
              · have dA : ((y2 : Nat) : Int) ≤ ((t : Nat) : Int) := by omega
                have hru : rup S t ((((sl : Nat) : Int), yn, yv), y2) = ((((sl : Nat) : Int), yn, yv), stC S t (sl : Nat)) := by unfold rup; rw [if_pos hat]
                rw [hru] at hrs
                have hls := lC_set Lq q _ (stC S t (sl : Nat)) hgq
                rw [hrs] at hls
                have hl1 := hApp hl0
                (have g0 := decide_t hz2; refine GN1 ?_; clear g0)
                refine ei_dregD ?_
                (have g0 := hl0; have g1 := hx0; have g2 := hc2; have g3 := decide_t dA; refine GD4 ?_; clear g0 g1 g2 g3)
                refine GN0 ?_
                refine ei_dregD ?_
                (have g0 := hl0; have g1 := hx0; have g2 := hc1; refine GD3 ?_; clear g0 g1 g2)
                refine GC ?_
                refine (rstands_ok S w room t sl oL oD L.length D.length hS1 hS2 htm hsl _).mono ?_
                rintro v H' ⟨rfl, rfl⟩
                refine ⟨?_, ?_⟩
                · (have g0 := hl0; have g1 := hl1; have g2 := hx0; have g3 := hc1; exact GR4)
                refine GD0 ?_
                ((apply RunD.st); (· rfl); (· rfl); (· (simp only [go_sem, Int.reduceBEq, Int.reduceBNe, Int.reduceLT, Int.reduceLE, Int.reduceAdd, Int.reduceSub, Int.reduceToNat, reduceIte, Nat.reduceEqDiff, Nat.reduceAdd, Nat.reduceMul, Nat.reduceLeDiff, Nat.reduceSub, reduceCtorEq, hl1, hcl, hls]; (try simp (disch := omega) only [OM, mn_lo, mn_hi, mx_lo, mx_hi, if_yes, if_no, Option.map_some, hl1, hcl, hls]); (try with_reducible exact rfl))))
                · (have g0 := hl0; have g1 := hl1; have g2 := hx0; have g3 := hc1; exact GR4)
                refine GD0 ?_
                (have g0 := eqn1; refine GG1 ?_; clear g0)
                refine ⟨L1.length - (q + 1), by omega, q + 1, _, by omega, rfl, rfl, (ha.push _).set _, ?_⟩
                simp [Kp, Env.get]
              · have dA : ¬ ((y2 : Nat) : Int) ≤ ((t : Nat) : Int) := by omega
                have hru : rup S t ((((sl : Nat) : Int), yn, yv), y2) = ((((sl : Nat) : Int), yn, yv), y2) := by unfold rup; rw [if_neg hat]
                rw [hru] at hrs
                have hsame : Lq.set q ((((sl : Nat) : Int), yn, yv), y2) = Lq := by
                  apply List.ext_getElem?
                  intro j
                  by_cases hj : q = j
                  · subst hj
                    rw [List.getElem?_set_self (List.getElem?_eq_some_iff.1 hgq).1, hgq]
                  · rw [List.getElem?_set_ne hj]
                rw [hsame] at hrs
                (have g0 := decide_t hz2; refine GN1 ?_; clear g0)
                refine ei_dregD ?_
                (have g0 := hl0; have g1 := hx0; have g2 := hc2; have g3 := decide_f dA; refine GD4 ?_; clear g0 g1 g2 g3)
                (have g0 := eqn1; refine GG1 ?_; clear g0)
                refine ⟨L1.length - (q + 1), by omega, q + 1, N, by omega, rfl, rfl, by rw [← hrs]; exact ha, ?_⟩
                simp [Kp, Env.get]
        · have hneg : ¬ (((b : Nat) : Int) < 0) := by omega
          have hb0 := hb
          obtain ⟨hbl, x, hx, hxt, hmin⟩ := hb
          have hcv := (lC_get L1 b x hx).1
          have hp2 := hp.step hs hx hb0
          have hel : (L1.eraseIdx b).length = L1.length - 1 := by rw [List.length_eraseIdx]; simp [hbl]
          have hdlen : (n64 (D ++ vs dl)).length = (D.length + dl.length) * 1 := by rw [n64_len]; simp [vs]
          have ha2 := ha.due x.1.2.2 (.rw [.i .u64 x.1.2.2])
          have ha3 := ha2.row (L1.eraseIdx b)
          have hdp := hApp hd0
          have hl2 := ha2.l
          have etn : (((b : Nat) : Int) + 1).toNat = b + 1 := by omega
          have emn : ((dl.length : Nat) : Int) + 1 = ((dl.length + 1 : Nat) : Int) := rfl
          simp only [bstV]
          (have g0 := decide_f hz1; have g1 := decide_f hneg; have g2 := hl0; have g3 := hcv; refine GG4 ?_; clear g0 g1 g2 g3)
          refine Aa ((appE (id := H.length + jd) (n := D.length + dl.length) (c := n64 (D ++ vs dl)) (m := 1) (new := [.i .u64 x.1.2.2]) (by (simp only [go_sem, reduceIte, Nat.reduceEqDiff]; (try with_reducible exact rfl))) (by (simp only [go_sem, reduceIte, Nat.reduceEqDiff, hdp]; (try with_reducible exact rfl))) hdlen (by (simp only [go_sem, reduceIte, Nat.reduceEqDiff]; (try with_reducible exact rfl))) (by (simp only [go_sem, reduceIte, Nat.reduceEqDiff]; (try with_reducible exact rfl))) rfl (by omega)).trans (by simp only [sA, List.append_assoc]; exact rfl)) ?_
          refine GN0 ?_
          refine ei_dregD ?_
          refine GD0 ?_
          refine RunD.app rfl rfl ((rcut (L := L1) (id := H.length + jl) (b := b) (by (simp only [go_sem, reduceIte, Nat.reduceEqDiff]; (try with_reducible exact rfl))) (by (simp only [go_sem, reduceIte, Nat.reduceEqDiff, etn]; (try with_reducible exact rfl))) (by (simp only [go_sem, reduceIte, Nat.reduceEqDiff, hl2]; (try with_reducible exact rfl))) hbl (by omega)).trans (by simp only [sA, List.append_assoc]; exact rfl)) ?_ ?_
          · exact GR0
          refine GD0 ?_
          (have g0 := emn; refine GG1 ?_; clear g0)
          have e5 : D ++ vs dl ++ [x.1.2.2] = D ++ vs (dl ++ [x.1]) := by simp [vs]
          rw [e5] at ha3
          refine ⟨(L1.eraseIdx b).length, by omega, _, _, _, L1.eraseIdx b, dl ++ [x.1], rfl, ?_, ha3, hp2, by simp; omega, ?_⟩
          · simp only [List.append_assoc, List.set_append_right, List.cons_append, List.nil_append]
          · simp [Kp, Env.get, hel]
      · have hz1 : (((i : Nat) : Int) < ((L1.length : Nat) : Int)) := by omega
        have ein : ((i : Nat) : Int) + 1 = ((i + 1 : Nat) : Int) := rfl
        obtain ⟨y, hy⟩ : ∃ y, L1[i]? = some y := ⟨L1[i], List.getElem?_eq_getElem (by omega)⟩
        have hc1 := (lC_get L1 i y hy).2.1
        have hone : ∀ q z, q < i + 1 → L1[q]? = some z → q < i ∨ (q = i ∧ z = y) := fun q z hq hz => by
          rcases Nat.lt_or_ge q i with g | g
          · exact .inl g
          · obtain rfl : q = i := by omega
            rw [hy] at hz
            exact .inr ⟨rfl, by simpa using hz.symm⟩
        by_cases hyt : y.1.1 ≤ ((t : Nat) : Int)
        · have dA : decide (y.1.1 ≤ ((t : Nat) : Int)) = true := decide_eq_true hyt
          rcases b with _ | b
          · have dB : decide ((-1 : Int) < 0) = true := rfl
            have hcb := hc1
            have dC := dB
            simp only [bstV]
            (have g0 := decide_t hz1; refine GN1 ?_; clear g0)
            refine ei_dregD ?_
            (have g0 := hl0; have g1 := hx0; have g2 := hc1; have g3 := hcb; have g4 := dA; have g5 := dB; have g6 := dC; refine GD7 ?_; clear g0 g1 g2 g3 g4 g5 g6)
            (have g0 := ein; refine GG1 ?_; clear g0)
            refine ⟨L1.length - (i + 1), by omega, i + 1, some i, by omega, rfl, rfl, ⟨by omega, y, hy, hyt, fun q z hq hz hzt => ?_⟩, ?_⟩
            · rcases hone q z hq hz with g | ⟨rfl, rfl⟩
              · have := hb q z g hz
                omega
              · exact .inr ⟨rfl, Nat.le_refl _⟩
            · simp [Kp, Env.get, bstV]
          · obtain ⟨hbl, x, hx, hxt, hmin⟩ := hb
            have hcb := (lC_get L1 b x hx).2.1
            have dB : decide (((b : Nat) : Int) < 0) = false := decide_eq_false (by omega)
            simp only [bstV]
            by_cases hlt : y.1.1 < x.1.1
            · have dC : decide (y.1.1 < x.1.1) = true := decide_eq_true hlt
              (have g0 := decide_t hz1; refine GN1 ?_; clear g0)
              refine ei_dregD ?_
              (have g0 := hl0; have g1 := hx0; have g2 := hc1; have g3 := hcb; have g4 := dA; have g5 := dB; have g6 := dC; refine GD7 ?_; clear g0 g1 g2 g3 g4 g5 g6)
              (have g0 := ein; refine GG1 ?_; clear g0)
              refine ⟨L1.length - (i + 1), by omega, i + 1, some i, by omega, rfl, rfl, ⟨by omega, y, hy, hyt, fun q z hq hz hzt => ?_⟩, ?_⟩
              · rcases hone q z hq hz with g | ⟨rfl, rfl⟩
                · have := hmin q z g hz hzt
                  omega
                · exact .inr ⟨rfl, Nat.le_refl _⟩
              · simp [Kp, Env.get, bstV]
            · have dC : decide (y.1.1 < x.1.1) = false := decide_eq_false hlt
              (have g0 := decide_t hz1; refine GN1 ?_; clear g0)
              refine ei_dregD ?_
              (have g0 := hl0; have g1 := hx0; have g2 := hc1; have g3 := hcb; have g4 := dA; have g5 := dB; have g6 := dC; refine GD7 ?_; clear g0 g1 g2 g3 g4 g5 g6)
              (have g0 := ein; refine GG1 ?_; clear g0)
              refine ⟨L1.length - (i + 1), by omega, i + 1, some b, by omega, rfl, rfl, ⟨by omega, x, hx, hxt, fun q z hq hz hzt => ?_⟩, ?_⟩
              · rcases hone q z hq hz with g | ⟨rfl, rfl⟩
                · exact hmin q z g hz hzt
                · omega
              · simp [Kp, Env.get, bstV]
        · have dA : decide (y.1.1 ≤ ((t : Nat) : Int)) = false := decide_eq_false hyt
          have hcb := hc1
          have dB := dA
          have dC := dA
          (have g0 := decide_t hz1; refine GN1 ?_; clear g0)
          refine ei_dregD ?_
          (have g0 := hl0; have g1 := hx0; have g2 := hc1; have g3 := hcb; have g4 := dA; have g5 := dB; have g6 := dC; refine GD7 ?_; clear g0 g1 g2 g3 g4 g5 g6)
          (have g0 := ein; refine GG1 ?_; clear g0)
          refine ⟨L1.length - (i + 1), by omega, i + 1, b, by omega, rfl, rfl, ?_, ?_⟩
          · rcases b with _ | b
            · intro q z hq hz
              rcases hone q z hq hz with g | ⟨rfl, rfl⟩
              · exact hb q z g hz
              · omega
            · obtain ⟨hbl, x, hx, hxt, hmin⟩ := hb
              refine ⟨by omega, x, hx, hxt, fun q z hq hz hzt => ?_⟩
              rcases hone q z hq hz with g | ⟨rfl, rfl⟩
              · exact hmin q z g hz hzt
              · omega
          · simp [Kp, Env.get]
end Go.Proofs.YtmdilnelogechaaDoor.IR
