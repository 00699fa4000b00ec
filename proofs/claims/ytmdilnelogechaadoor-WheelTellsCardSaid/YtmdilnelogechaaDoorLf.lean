/- This text of a proof shows: the document's wheel: Held; and Ints; the wheel and the document's wheel have the same, whatever is done to both; what the law 'WheelTells' wants of the calls: wrong numbers, kept objects. -/
import Derived.Test.YtmdilnelogechaaDoorGg
import Derived.Test.YtmdilnelogechaaDoorLe
import Derived.Test.YtmdilnelogechaaDoorWj
set_option linter.unusedVariables false
set_option linter.unusedSimpArgs false
set_option linter.constructorNameAsVariable false
namespace Go.Proofs.YtmdilnelogechaaDoor.IR
open Go Go.Proofs.YtmdilnelogechaaDoor.Ev Go.Proofs.YtmdilnelogechaaDoor.Ev.Rb Go.Proofs.YtmdilnelogechaaDoor.Ev.Wh Go.Proofs.YtmdilnelogechaaDoor.Ext Go.Proofs.YtmdilnelogechaaDoorW.PrintWords
set_option linter.unusedSimpArgs false
set_option linter.unusedVariables false
set_option maxHeartbeats 4000000
attribute [local go_sem] skipV nc0 nc1 nc2 nc3 bne_self_eq_false decide_true decide_false IOp.step Opd.ev Env.get initEnv Val.cells? Val.one List.all_cons List.all_nil Bool.and_true Bool.and_self Bool.true_and bin ints eqv Val.kindNo lenNo_s lenNo_nils lenNo_sl lenNo_nilm lenNo_m lenOf_s lenOf_nils lenOf_sl lenOf_nilm unary partsOf padTo List.foldl_cons List.foldl_nil wr_nil wr_step wr_zero List.set_cons_zero List.set_cons_succ List.map_cons List.map_nil z1 z2 Nat.succ_ne_zero List.length_cons List.length_nil List.cons_append List.nil_append List.append_nil List.getElem?_cons_zero List.getElem?_cons_succ List.getElem?_nil Option.map_some Option.map_none Nat.zero_add Nat.add_zero List.drop_zero List.drop_succ_cons List.take_succ_cons List.take_zero List.take_nil and_self and_true true_and Nat.le_refl Bool.not_true Bool.not_false Option.getD_some window Val.slen bnd resV resL RV.val Bool.false_eq_true BEq.rfl Bool.true_beq Bool.false_beq beq_true beq_false mk_one ite_true ite_false eqc ceqs ceq NOp.step isK eq_self
attribute [local go_sem] nat_toNat gA gA0 sA sA0 List.append_assoc List.length_append List.length_set Nat.add_assoc Nat.sub_zero wr1 Nat.mul_one
attribute [local go_sem high] slV_one slV_no dw_all dw_all2 dw_all3
def cntN (L : Tl) (p : Nat) : Nat := (L.filter fun y => decide (y.2 = p)).length
def cntC (L : Tl) (c S : Nat) : List Val := (List.range S).map fun d => .i .i64 (cntN L (c + d) : Nat)
theorem cntC_len (L : Tl) (c S : Nat) : (cntC L c S).length = S := by simp [cntC]
theorem cntC_get (L : Tl) (c S d : Nat) (h : d < S) : (cntC L c S)[d]? = some (.i .i64 (cntN L (c + d) : Nat)) := by
  simp only [cntC, List.getElem?_map, List.getElem?_range h, Option.map_some]
theorem cntC_set (L : Tl) (c S d : Nat) (h : d < S) (y : Th × Nat) (hy : y.2 = c + d) : (cntC L c S).set d (.i .i64 (cntN L (c + d) + 1 : Nat)) = cntC (L ++ [y]) c S := by
  apply List.ext_getElem?
  intro j
  rcases Nat.lt_or_ge j S with g | g
  · rw [cntC_get _ _ _ _ g]
    by_cases e : d = j
    · subst e
      rw [List.getElem?_set_self (by rw [cntC_len]; exact h)]
      unfold cntN
      rw [List.filter_append, List.filter_cons_of_pos (by simp [hy])]
      simp
    · rw [List.getElem?_set_ne e, cntC_get _ _ _ _ g]
      unfold cntN
      rw [List.filter_append, List.filter_cons_of_neg (by simp [hy]; omega)]
      simp
  · rw [List.getElem?_eq_none (by rw [List.length_set, cntC_len]; exact g), List.getElem?_eq_none (by rw [cntC_len]; exact g)]
theorem cntC_nil (c S : Nat) : List.replicate S (Val.i .i64 0) = cntC [] c S := by simp [cntC, cntN, List.map_const']
def RhI (H : Heap) (X : AObj) (L : Tl) (c S : Nat) (n : Nat) (ρ : Env) (H' : Heap) : Prop :=
  ∃ q : Nat, q ≤ L.length ∧ n = L.length - q ∧ H' = H ++ [X, .rw (cntC (L.take q) c S)] ∧ Kp [(1, .p H.length 0), (3, .sl (H.length + 1) 0 S 1), (4, .i .i64 (q : Nat))] ρ
theorem rheld_ok (S w room c : Nat) (oL oD : Option (Nat × Nat)) (L : Tl) (nD : Nat) (H : Heap) (hL : LSl H oL L) (hl : L.length ≤ 1000000) (hS2 : S ≤ 4096) (hc : c ≤ 18446744073709551615) (hall : ∀ y ∈ L, c ≤ y.2 ∧ y.2 < c + S ∧ y.2 ≤ 18446744073709551615) :
    SoundCall Tryd.prog 28 [.agg (dwV S w room c (slV oL L.length 3) (slV oD nD 1))] H (fun v H' => ∃ j N, v = .sl j 0 S 1 ∧ H' = H ++ N ∧ H.length ≤ j ∧ H'[j]? = some (.rw (cntC L c S))) := by
  refine (sound_func Tryd.func28 c28 rfl (Nat.le_refl _) ?_)
  simp only [e28, s28, dwV]
  have e1 := slV_len hL.no 3
  (have g0 := cntC_nil c S; refine GG1 ?_; clear g0)
  refine ei_loop (RhI H (.rw [.i .i64 (S : Nat), .i .u64 (w : Nat), .i .i64 (room : Nat), .i .u64 (c : Nat), slV oL L.length 3, slV oD nD 1]) L c S) (n := L.length) ?_ ?_
  · refine ⟨0, Nat.zero_le _, rfl, rfl, ?_⟩
    simp [Kp, Env.get]
  · rintro n ρ H1 ⟨q, hq, rfl, rfl, hρ⟩
    refine ei_few _ hρ ?_
    clear hρ
    by_cases hql : q = L.length
    · subst hql
      have d : ¬ (((L.length : Nat) : Int) < ((L.length : Nat) : Int)) := by omega
      (have g0 := e1; have g1 := decide_f d; refine GG2 ?_; clear g0 g1)
      refine ⟨_, _, rfl, rfl, Nat.le_add_right _ _, ?_⟩
      rw [gA, List.take_length]; rfl
    · have d : (((q : Nat) : Int) < ((L.length : Nat) : Int)) := by omega
      have eqn1 : ((q : Nat) : Int) + 1 = ((q + 1 : Nat) : Int) := rfl
      obtain ⟨y, hy⟩ : ∃ y, L[q]? = some y := ⟨L[q], List.getElem?_eq_getElem (by omega)⟩
      obtain ⟨g1, g2, g3⟩ := hall y (List.mem_of_getElem? hy)
      obtain ⟨dd, hdd⟩ : ∃ dd, y.2 = c + dd := ⟨y.2 - c, by omega⟩
      have htk : L.take (q + 1) = L.take q ++ [y] := by rw [List.take_add_one, hy]; rfl
      rcases hL with ⟨_, rfl⟩ | ⟨i, rfl, hg⟩
      · simp at hy
      have hga := hApp hg
      have hc1 := (lC_get L q y hy).2.2
      rw [hdd] at hc1
      have hdS : dd < S := by omega
      have hcg := cntC_get (L.take q) c S dd hdS
      have hcs := cntC_set (L.take q) c S dd hdS y hdd
      rw [← htk] at hcs
      have hcl := cntC_len (L.take q) c S
      have hcn : cntN (L.take q) (c + dd) ≤ 1000000 := by
        have h1 := List.length_filter_le (fun y : Th × Nat => decide (y.2 = c + dd)) (L.take q)
        have h2 : (L.take q).length ≤ L.length := by rw [List.length_take]; omega
        exact Nat.le_trans (Nat.le_trans h1 h2) hl
      have esub : ((c + dd : Nat) : Int) - ((c : Nat) : Int) = ((dd : Nat) : Int) := by omega
      have ecn : ((cntN (L.take q) (c + dd) : Nat) : Int) + 1 = ((cntN (L.take q) (c + dd) + 1 : Nat) : Int) := rfl
      have hcdd : c + dd ≤ 18446744073709551615 := by omega
      obtain ⟨C2, hC2⟩ : ∃ C2, C2 = cntC (L.take (q + 1)) c S := ⟨_, rfl⟩
      rw [← hC2] at hcs
      generalize cntC (L.take q) c S = C1 at hcg hcs hcl ⊢
      generalize cntN (L.take q) (c + dd) = m at hcg hcs hcn ecn
      simp only [slV_some]
      (have g0 := decide_t d; refine GN1 ?_; clear g0)
      refine ei_dregD ?_
      repeat (first
    | ((with_reducible apply RunD.op0); (· rfl); (· rfl); (· (simp only [go_sem, Int.reduceBEq, Int.reduceBNe, Int.reduceLT, Int.reduceLE, Int.reduceAdd, Int.reduceSub, Int.reduceToNat, reduceIte, Nat.reduceEqDiff, Nat.reduceAdd, Nat.reduceMul, Nat.reduceLeDiff, Nat.reduceSub, reduceCtorEq, hga, hc1, esub, hcg, ecn]; (try simp (disch := omega) only [OM, mn_lo, mn_hi, mx_lo, mx_hi, if_yes, if_no, Option.map_some, hga, hc1, esub, hcg, ecn]); (try with_reducible exact rfl)))) | ((with_reducible apply RunD.op1); (· rfl); (· rfl); (· (simp only [go_sem, Int.reduceBEq, Int.reduceBNe, Int.reduceLT, Int.reduceLE, Int.reduceAdd, Int.reduceSub, Int.reduceToNat, reduceIte, Nat.reduceEqDiff, Nat.reduceAdd, Nat.reduceMul, Nat.reduceLeDiff, Nat.reduceSub, reduceCtorEq, hga, hc1, esub, hcg, ecn]; (try simp (disch := omega) only [OM, mn_lo, mn_hi, mx_lo, mx_hi, if_yes, if_no, Option.map_some, hga, hc1, esub, hcg, ecn]); (try with_reducible exact rfl)))) | (with_reducible apply RunD.nil))
      ((apply RunD.st); (· rfl); (· rfl); (· (simp only [go_sem, Int.reduceBEq, Int.reduceBNe, Int.reduceLT, Int.reduceLE, Int.reduceAdd, Int.reduceSub, Int.reduceToNat, reduceIte, Nat.reduceEqDiff, Nat.reduceAdd, Nat.reduceMul, Nat.reduceLeDiff, Nat.reduceSub, reduceCtorEq, hcl, hcs]; (try simp (disch := omega) only [OM, mn_lo, mn_hi, mx_lo, mx_hi, if_yes, if_no, Option.map_some, hcl, hcs]); (try with_reducible exact rfl))))
      · (repeat (first | exact recheck_nil | (refine rc_in (by decide) ?_) | (refine rc_now (by (simp only [go_sem, Int.reduceBEq, Int.reduceBNe, Int.reduceLT, Int.reduceLE, Int.reduceAdd, Int.reduceSub, Int.reduceToNat, reduceIte, Nat.reduceEqDiff, Nat.reduceAdd, Nat.reduceMul, Nat.reduceLeDiff, Nat.reduceSub, reduceCtorEq, hga, hc1, esub, hcg, ecn]; (try simp (disch := omega) only [OM, mn_lo, mn_hi, mx_lo, mx_hi, if_yes, if_no, Option.map_some, hga, hc1, esub, hcg, ecn]); (try with_reducible exact rfl))) ?_)))
      repeat (first
    | ((with_reducible apply RunD.op0); (· rfl); (· rfl); (· (simp only [go_sem, Int.reduceBEq, Int.reduceBNe, Int.reduceLT, Int.reduceLE, Int.reduceAdd, Int.reduceSub, Int.reduceToNat, reduceIte, Nat.reduceEqDiff, Nat.reduceAdd, Nat.reduceMul, Nat.reduceLeDiff, Nat.reduceSub, reduceCtorEq]; (try simp (disch := omega) only [OM, mn_lo, mn_hi, mx_lo, mx_hi, if_yes, if_no, Option.map_some]); (try with_reducible exact rfl)))) | ((with_reducible apply RunD.op1); (· rfl); (· rfl); (· (simp only [go_sem, Int.reduceBEq, Int.reduceBNe, Int.reduceLT, Int.reduceLE, Int.reduceAdd, Int.reduceSub, Int.reduceToNat, reduceIte, Nat.reduceEqDiff, Nat.reduceAdd, Nat.reduceMul, Nat.reduceLeDiff, Nat.reduceSub, reduceCtorEq]; (try simp (disch := omega) only [OM, mn_lo, mn_hi, mx_lo, mx_hi, if_yes, if_no, Option.map_some]); (try with_reducible exact rfl)))) | (with_reducible apply RunD.nil))
      (have g0 := eqn1; refine GG1 ?_; clear g0)
      refine ⟨L.length - (q + 1), by omega, q + 1, by omega, rfl, by subst hC2; rfl, ?_⟩
      simp [Kp, Env.get]
def InI (n0 i j : Nat) (H0 : Heap) (n : Nat) (ρ : Env) (H : Heap) : Prop := ∃ q : Nat, q ≤ n0 ∧ n = n0 - q ∧ H = H0 ∧ Kp [(0, .sl i 0 n0 1), (1, .sl j 0 n0 1), (12, .i .i64 (n0 : Nat)), (13, .i .i64 (q : Nat))] ρ
theorem ints_ok (n0 i j : Nat) (c : List Val) (H : Heap) (hi : H[i]? = some (.rw c)) (hj : H[j]? = some (.rw c)) (hn : n0 ≤ 1000000) (hc : ∀ q, q < n0 → ∃ x, c[q]? = some (.i .i64 x)) :
    SoundCall Tryd.prog 26 [.sl i 0 n0 1, .sl j 0 n0 1] H (fun v H' => v = .b true ∧ H' = H) := by
  refine (sound_func Tryd.func26 c26 rfl (Nat.le_refl _) ?_)
  simp only [e26, s26]
  have hb0 : (((n0 : Nat) : Int) != ((n0 : Nat) : Int)) = false := bne_self_eq_false _
  (have g0 := hb0; refine GG1 ?_; clear g0)
  refine ei_loop (InI n0 i j H) (n := n0) ?_ ?_
  · refine ⟨0, Nat.zero_le _, rfl, rfl, ?_⟩
    simp [Kp, Env.get, initEnv]
  · rintro n ρ H1 ⟨q, hq, rfl, rfl, hρ⟩
    refine ei_few _ hρ ?_
    clear hρ
    by_cases hqn : q = n0
    · subst hqn
      have d : ¬ (((q : Nat) : Int) < ((q : Nat) : Int)) := by omega
      (have g0 := decide_f d; refine GG1 ?_; clear g0)
      exact ⟨rfl, rfl⟩
    · have d : (((q : Nat) : Int) < ((n0 : Nat) : Int)) := by omega
      have eqn1 : ((q : Nat) : Int) + 1 = ((q + 1 : Nat) : Int) := rfl
      obtain ⟨x, hx⟩ := hc q (by omega)
      have hbx : (x != x) = false := bne_self_eq_false _
      (have g0 := decide_t d; have g1 := hi; have g2 := hj; have g3 := hx; have g4 := hbx; have g5 := eqn1; refine GG6 ?_; clear g0 g1 g2 g3 g4 g5)
      refine ⟨n0 - (q + 1), by omega, q + 1, by omega, rfl, rfl, ?_⟩
      simp [Kp, Env.get]
end Go.Proofs.YtmdilnelogechaaDoor.IR
namespace Go.Proofs.YtmdilnelogechaaDoor.IR
open Go Go.Proofs.YtmdilnelogechaaDoor.Ev Go.Proofs.YtmdilnelogechaaDoor.Ev.Rb Go.Proofs.YtmdilnelogechaaDoor.Ev.Wh Go.Proofs.YtmdilnelogechaaDoor.Ext Go.Proofs.YtmdilnelogechaaDoorW.PrintWords
structure TT (s : Ws) (T L : Tl) : Prop where
  wt : WT s T
  up : ∀ y ∈ T, (y.2 : Int) ≤ max y.1.1 (s.c : Nat)
  perm : L.Perm T
  ord : L.Pairwise fun x y => x.1.2.1 < y.1.2.1
theorem TT.init {S w room : Nat} (hS : 2 ≤ S) : TT (Wd.init S w room) [] [] := ⟨WT.init hS, by simp, .refl _, .nil⟩
theorem TT.less {s : Ws} {T L : Tl} (h : TT s T L) {l : List Int} (hl : l.length ≤ s.due.length) : TT { s with due := l } T L := ⟨h.wt.less hl, h.up, h.perm, h.ord⟩
theorem TT.put {s : Ws} {T L : Tl} (h : TT s T L) (hk : WOk s) {v : Int} {t : Nat} (ht : t ≤ 18446744073709551615) (hr : s.wt + s.due.length < s.room) :
    TT (put1 s v t) (T ++ tlP s v t) (L ++ [((((slotN t s.w : Nat) : Int), ((s.put : Nat) : Int), v), stC s.S s.c (slotN t s.w : Nat))]) := by
  refine ⟨h.wt.put hk ht hr, fun y hy => ?_, h.perm.append_right _, ?_⟩
  · rcases List.mem_append.1 hy with hy | hy
    · exact h.up y hy
    · simp only [tlP, List.mem_singleton] at hy
      subst hy
      exact stC_up _ _ _ (by show (0 : Int) ≤ (slotN t s.w : Nat); omega)
  · refine List.pairwise_append.2 ⟨h.ord, List.pairwise_singleton _ _, fun a ha b hb => ?_⟩
    simp only [List.mem_singleton] at hb
    subst hb
    exact h.wt.lt a (h.perm.subset ha)
theorem RaP.rest {L0 L1 : Tl} {t : Nat} {dl : List Th} (h : RaP L0 t L1 dl) (hl : ∀ y ∈ L1, ((t : Nat) : Int) < y.1.1) : L1 = L0.filter (fun y => decide (((t : Nat) : Int) < y.1.1)) ∧ dl.Perm ((L0.map (·.1)).filter fun x => decide (x.1 ≤ ((t : Nat) : Int))) := by
  have hs : L1.Sublist (L0.filter fun y => decide (((t : Nat) : Int) < y.1.1)) := by
    have := h.sub.filter (fun y => decide (((t : Nat) : Int) < y.1.1))
    rwa [List.filter_eq_self.2 (fun y hy => by simpa using hl y hy)] at this
  constructor
  · refine hs.eq_of_length ?_
    have hp := h.perm.filter (fun x : Th => decide (((t : Nat) : Int) < x.1))
    rw [List.filter_append, List.filter_eq_nil_iff.2 (fun x hx => by have := h.done x hx; simp; omega), List.nil_append, List.filter_map, List.filter_map] at hp
    have := hp.length_eq
    simp only [List.length_map] at this
    have e : L1.filter ((fun x : Th => decide (((t : Nat) : Int) < x.1)) ∘ fun x => x.1) = L1 := List.filter_eq_self.2 (fun y hy => by simpa using hl y hy)
    rw [e] at this
    exact this
  · have hp := h.perm.filter (fun x : Th => decide (x.1 ≤ ((t : Nat) : Int)))
    rw [List.filter_append, List.filter_eq_self.2 (fun x hx => by simpa using h.done x hx), List.filter_eq_nil_iff.2 (fun x hx => by
      obtain ⟨y, hy, e⟩ := List.mem_map.1 hx
      have := hl y hy
      rw [e] at this
      simp; omega), List.append_nil] at hp
    exact hp
theorem TT.adv {s s' : Ws} {T L : Tl} (h : TT s T L) {t : Nat} (ht : s.c ≤ t) {l : List Th} (hp : l.Perm ((T.filter fun y => y.2 ≤ t).map (·.1))) (hso : Sorted l) (hA : AdvP s T t l s') {L1 : Tl} {dl : List Th} (hR : RaP L t L1 dl) (hl1 : ∀ y ∈ L1, ((t : Nat) : Int) < y.1.1) :
    dl = dueL t l ∧ TT s' ((T.filter fun y => t < y.2) ++ again s.S t (farL t l)) (L1.map (rup s.S t)) := by
  obtain ⟨f1, f2, f3, f4, f5⟩ := hA.same
  obtain ⟨r1, r2⟩ := hR.rest hl1
  have hfar : ∀ y ∈ T, t < y.2 → ((t : Nat) : Int) < y.1.1 := fun y hy hlt => by have := h.up y hy; omega
  have hmT := h.perm.map (·.1)
  constructor
  · refine sorted_eq hR.sorted (List.Pairwise.sublist List.filter_sublist hso) ?_
    refine r2.trans ?_
    refine (hmT.filter _).trans ?_
    have hsp := ((split_perm t T).map (·.1)).filter (fun x : Th => decide (x.1 ≤ ((t : Nat) : Int)))
    refine hsp.trans ?_
    rw [List.map_append, List.filter_append]
    have e : ((T.filter fun y => decide (t < y.2)).map (·.1)).filter (fun x : Th => decide (x.1 ≤ ((t : Nat) : Int))) = [] := List.filter_eq_nil_iff.2 fun x hx => by
      obtain ⟨y, hy, e⟩ := List.mem_map.1 hx
      have h2 := List.mem_filter.1 hy
      have := hfar y h2.1 (by simpa using h2.2)
      rw [e] at this
      simp; omega
    rw [e, List.append_nil]
    exact (hp.symm.filter _)
  · refine ⟨hA.wT, fun y hy => ?_, ?_, ?_⟩
    · rw [f3]
      rcases List.mem_append.1 hy with hy | hy
      · have := h.up y (List.mem_filter.1 hy).1
        omega
      · obtain ⟨x, hx, rfl⟩ := List.mem_map.1 hy
        obtain ⟨z, hz, e⟩ := List.mem_map.1 (hp.subset (List.mem_filter.1 hx).1)
        have := (h.wt.ty z (List.mem_filter.1 hz).1).1
        rw [e] at this
        exact stC_up _ _ _ this
    · rw [r1]
      refine ((h.perm.filter _).map _).trans ?_
      refine (((split_perm t T).filter _).map _).trans ?_
      rw [List.filter_append, List.map_append]
      refine List.Perm.trans List.perm_append_comm ?_
      have eB : ((T.filter fun y => decide (t < y.2)).filter fun y => decide (((t : Nat) : Int) < y.1.1)).map (rup s.S t) = T.filter fun y => decide (t < y.2) := by
        rw [List.filter_eq_self.2 (fun y hy => by
          have h2 := List.mem_filter.1 hy
          simpa using hfar y h2.1 (by simpa using h2.2))]
        conv => rhs; rw [← List.map_id (T.filter fun y => decide (t < y.2))]
        refine List.map_congr_left fun y hy => ?_
        have h2 := (List.mem_filter.1 hy).2
        unfold rup
        rw [if_neg (by simpa using h2)]; rfl
      rw [eB]
      refine List.Perm.append_left _ ?_
      have eA : ((T.filter fun y => decide (y.2 ≤ t)).filter fun y => decide (((t : Nat) : Int) < y.1.1)).map (rup s.S t) = again s.S t (((T.filter fun y => decide (y.2 ≤ t)).map (·.1)).filter fun x => decide (((t : Nat) : Int) < x.1)) := by
        unfold again
        rw [List.filter_map, List.map_map]
        refine List.map_congr_left fun y hy => ?_
        have h2 := (List.mem_filter.1 (List.mem_filter.1 hy).1).2
        unfold rup
        rw [if_pos (by simpa using h2)]; rfl
      rw [eA]
      exact (hp.symm.filter _).map _
    · rw [r1, List.pairwise_map]
      refine List.Pairwise.imp (fun {a b} hab => ?_) (List.Pairwise.sublist List.filter_sublist h.ord)
      unfold rup
      split <;> split <;> exact hab
theorem TT.next {s : Ws} {T L : Tl} (h : TT s T L) {m m2 : Nat} (h1 : ∃ y ∈ T, y.2 = m) (h2 : ∀ z ∈ T, m ≤ z.2) (h3 : ∃ y ∈ L, y.2 = m2) (h4 : ∀ z ∈ L, m2 ≤ z.2) : m = m2 := by
  obtain ⟨y, hy, rfl⟩ := h1
  obtain ⟨z, hz, rfl⟩ := h3
  have := h2 z (h.perm.subset hz)
  have := h4 y (h.perm.symm.subset hy)
  omega
theorem TT.held {s : Ws} {T L : Tl} (h : TT s T L) (hS : 0 < s.S) : hC s s.S = cntC L s.c s.S := by
  unfold hC cntC
  refine List.map_congr_left fun d hd => ?_
  have hd := List.mem_range.1 hd
  congr 2
  unfold hN cntN
  have h1 := (h.wt.rt.slot ((s.c + d) % s.S) (Nat.mod_lt _ hS)).length_eq
  rw [List.length_map] at h1
  rw [h1, ((h.perm.filter fun y => decide (y.2 = s.c + d)).length_eq)]
  congr 1
  refine List.filter_congr fun y hy => ?_
  have hlo := h.wt.rt.lo y hy
  have hhi := (h.wt.rt.hi y hy).2
  rw [Bool.eq_iff_iff]
  simp only [decide_eq_true_eq]
  constructor
  · intro e
    obtain ⟨k, hk⟩ : ∃ k, y.2 = s.c + k := ⟨y.2 - s.c, by omega⟩
    rw [hk] at e ⊢
    rw [place_inj (by omega) hd e]
  · intro e; rw [e]
end Go.Proofs.YtmdilnelogechaaDoor.IR
namespace Go.Proofs.YtmdilnelogechaaDoor.IR
open Go Go.Proofs.YtmdilnelogechaaDoor.Ev Go.Proofs.YtmdilnelogechaaDoor.Ev.Rb Go.Proofs.YtmdilnelogechaaDoor.Ev.Wh Go.Proofs.YtmdilnelogechaaDoor.Ext Go.Proofs.YtmdilnelogechaaDoorW.PrintWords
set_option linter.unusedSimpArgs false
set_option linter.unusedVariables false
set_option maxHeartbeats 4000000
attribute [local go_sem] skipV nc0 nc1 nc2 nc3 bne_self_eq_false decide_true decide_false IOp.step Opd.ev Env.get initEnv Val.cells? Val.one List.all_cons List.all_nil Bool.and_true Bool.and_self Bool.true_and bin ints eqv Val.kindNo lenNo_s lenNo_nils lenNo_sl lenNo_nilm lenNo_m lenOf_s lenOf_nils lenOf_sl lenOf_nilm unary partsOf padTo List.foldl_cons List.foldl_nil wr_nil wr_step wr_zero List.set_cons_zero List.set_cons_succ List.map_cons List.map_nil z1 z2 Nat.succ_ne_zero List.length_cons List.length_nil List.cons_append List.nil_append List.append_nil List.getElem?_cons_zero List.getElem?_cons_succ List.getElem?_nil Option.map_some Option.map_none Nat.zero_add Nat.add_zero List.drop_zero List.drop_succ_cons List.take_succ_cons List.take_zero List.take_nil and_self and_true true_and Nat.le_refl Bool.not_true Bool.not_false Option.getD_some window Val.slen bnd resV resL RV.val Bool.false_eq_true BEq.rfl Bool.true_beq Bool.false_beq beq_true beq_false mk_one ite_true ite_false eqc ceqs ceq NOp.step isK eq_self
attribute [local go_sem] nat_toNat gA gA0 sA sA0 List.append_assoc List.length_append Nat.add_assoc
/-- Numbers of which no wheel is made. -/
def BadN (a b c : Int) : Prop := a < 2 ∨ a > 4096 ∨ b < 1 ∨ b > 1099511627776 ∨ c < 1 ∨ c > 65536
theorem wnew_bad (a b c : Int) (h : BadN a b c) (H : Heap) : SoundCall Tryd.prog 20 [.i .i64 a, .i .u64 b, .i .i64 c] H (fun v H' => v = .tup [.nilp, .i .i64 2] ∧ H' = H) := by
  refine (sound_func Tryd.func20 c20 rfl (Nat.le_refl _) ?_)
  simp only [e20, s20]
  unfold BadN at h
  by_cases d1 : a < 2
  · (have g0 := decide_t d1; refine GG1 ?_; clear g0)
    exact ⟨rfl, rfl⟩
  by_cases d2 : a > 4096
  · (have g0 := decide_f d1; have g1 := decide_t d2; refine GG2 ?_; clear g0 g1)
    exact ⟨rfl, rfl⟩
  by_cases d3 : b < 1
  · (have g0 := decide_f d1; have g1 := decide_f d2; have g2 := decide_t d3; refine GG3 ?_; clear g0 g1 g2)
    exact ⟨rfl, rfl⟩
  by_cases d4 : b > 1099511627776
  · (have g0 := decide_f d1; have g1 := decide_f d2; have g2 := decide_f d3; have g3 := decide_t d4; refine GG4 ?_; clear g0 g1 g2 g3)
    exact ⟨rfl, rfl⟩
  by_cases d5 : c < 1
  · (have g0 := decide_f d1; have g1 := decide_f d2; have g2 := decide_f d3; have g3 := decide_f d4; have g4 := decide_t d5; refine GG5 ?_; clear g0 g1 g2 g3 g4)
    exact ⟨rfl, rfl⟩
  have d6 : c > 65536 := by omega
  (have g0 := decide_f d1; have g1 := decide_f d2; have g2 := decide_f d3; have g3 := decide_f d4; have g4 := decide_f d5; have g5 := decide_t d6; refine GG6 ?_; clear g0 g1 g2 g3 g4 g5)
  exact ⟨rfl, rfl⟩
theorem rnew_bad (a b c : Int) (h : BadN a b c) (H : Heap) : SoundCall Tryd.prog 21 [.i .i64 a, .i .u64 b, .i .i64 c] H (fun v H' => v = .tup [.agg [.i .i64 0, .i .u64 0, .i .i64 0, .i .u64 0, .nils, .nils], .b false] ∧ ∃ N, H' = H ++ N) := by
  refine (sound_func Tryd.func21 c21 rfl (Nat.le_refl _) ?_)
  simp only [e21, s21]
  unfold BadN at h
  by_cases d1 : a < 2
  · (have g0 := decide_t d1; refine GG1 ?_; clear g0)
    exact ⟨rfl, _, rfl⟩
  by_cases d2 : a > 4096
  · (have g0 := decide_f d1; have g1 := decide_t d2; refine GG2 ?_; clear g0 g1)
    exact ⟨rfl, _, rfl⟩
  by_cases d3 : b < 1
  · (have g0 := decide_f d1; have g1 := decide_f d2; have g2 := decide_t d3; refine GG3 ?_; clear g0 g1 g2)
    exact ⟨rfl, _, rfl⟩
  by_cases d4 : b > 1099511627776
  · (have g0 := decide_f d1; have g1 := decide_f d2; have g2 := decide_f d3; have g3 := decide_t d4; refine GG4 ?_; clear g0 g1 g2 g3)
    exact ⟨rfl, _, rfl⟩
  by_cases d5 : c < 1
  · (have g0 := decide_f d1; have g1 := decide_f d2; have g2 := decide_f d3; have g3 := decide_f d4; have g4 := decide_t d5; refine GG5 ?_; clear g0 g1 g2 g3 g4)
    exact ⟨rfl, _, rfl⟩
  have d6 : c > 65536 := by omega
  (have g0 := decide_f d1; have g1 := decide_f d2; have g2 := decide_f d3; have g3 := decide_f d4; have g4 := decide_f d5; have g5 := decide_t d6; refine GG6 ?_; clear g0 g1 g2 g3 g4 g5)
  exact ⟨rfl, _, rfl⟩
theorem WH.nil {s : Ws} {J : Jl} {W : Heap} (h : WH s J W) : WH s [] W := by
  obtain ⟨b, dv, cells, D, tag, h4, hD, h5⟩ := h
  exact ⟨b, dv, cells, D, tag, h4, hD.less (by simp), h5⟩
theorem LK.add {A R N : Heap} {wid : Nat} {s : Ws} {K : Jl} (h : LK A R wid s K) {x : Nat} {o : AObj} (hx : R.length ≤ x) (ho : (R ++ N)[x]? = some o) : LK A (R ++ N) wid s ((x, o) :: K) := by
  have h2 := h.push N
  obtain ⟨ids, W, g1, g2, g3, g4, g5⟩ := h
  obtain ⟨ids', W', k1, k2, k3, k4, k5⟩ : LK A (R ++ N) wid s K := h2
  refine ⟨ids, W, by rw [← List.append_assoc]; exact g1.push N, g2, g3, g4, fun y hy => ?_⟩
  rcases List.mem_cons.1 hy with rfl | hy
  · refine ⟨fun hi => ?_, ho⟩
    have := g1.lt hi
    simp at this; omega
  · refine ⟨(g5 y hy).1, ?_⟩
    rw [List.getElem?_append_left (List.getElem?_eq_some_iff.1 (g5 y hy).2).1]
    exact (g5 y hy).2
/-- A call that answers an object of the wheel's. -/
theorem LK.callV {P : Program} {A R : Heap} {wid : Nat} {s : Ws} {K : Jl} {f : FuncId} {xs : List Val} {Q : Val → Heap → Prop} (h : LK A R wid s K) (c : ∀ W, WH s [] W → SoundCall P f (.p 0 0 :: xs) W Q) (hx : wfL 0 xs = true) (hQ : ∀ v W', Q v W' → ∃ s' J', WH s' J' W') :
    SoundCall P f (.p wid 0 :: xs) (A ++ R) (fun v H' => ∃ (R' : Heap) (v0 : Val) (W' : Heap) (ι : Nat → Nat), H' = A ++ R' ∧ Q v0 W' ∧ v = v0.ren ι ∧ (∀ s', WH s' [] W' → LK A R' wid s' K) ∧
      ∀ (x : Nat) (o : AObj), W'[x]? = some o → o.wf 0 = true → A.length ≤ ι x ∧ (A ++ R')[ι x]? = some o) := by
  obtain ⟨ids, W, hat, hge, hw, hW, hK⟩ := h
  have h7 := hW.len
  have hxr : renL (nm ids) xs = xs := by
    have e := renL_same (f := nm ids) (g := id) (n := 0) (fun x hx => by omega) xs hx
    rw [e, renL_id]
  have hcall := At.call (SoundM.long (c W hW)) hat (vs := .p 0 0 :: xs) (ws := .p wid 0 :: xs) (by
    simp only [wfL, Val.wf, Bool.and_eq_true, decide_eq_true_eq]
    exact ⟨by omega, wfL_mono (Nat.zero_le _) xs hx⟩) (by simp only [renL, Val.ren, hw, hxr])
  refine hcall.mono ?_
  rintro v H' ⟨v0, W', ⟨hq, hlong⟩, rfl, hleft⟩
  obtain ⟨R', rfl⟩ := hleft.front hge
  obtain ⟨s0, J0, hW0⟩ := hQ v0 W' hq
  have hat' := hleft.at_ hW0.wf hlong
  have htk : ids.take W.length = ids := List.take_of_length_le (by rw [hat.len]; exact Nat.le_refl _)
  have hge' := Left.ge (k := W.length) (H' := []) (C' := W') hge (show A.length ≤ (A ++ R).length by simp)
  have hnm : ∀ x, x < W'.length → nm (ids.take W.length ++ List.range' (A ++ R).length (W'.length - W.length)) x = after (nm ids) W.length (A ++ R).length x := fun x hx => by
    unfold after
    split
    · rename_i h
      simp only [nm, htk, List.getD_eq_getElem?_getD]
      rw [List.getElem?_append_left (by rw [hat.len]; exact h)]
    · rename_i h
      refine nm_get ?_
      rw [htk, List.getElem?_append_right (by rw [hat.len]; omega), hat.len, List.getElem?_range' (by omega)]
      simp
  refine ⟨R', v0, W', _, rfl, hq, rfl, fun s' hW' => ⟨_, W', hat', hge', ?_, hW', fun x hx => ?_⟩, fun x o hx ho => ?_⟩
  · rw [htk]
    have : 0 < ids.length := by rw [hat.len]; omega
    rw [← hw]
    simp only [nm, List.getD_eq_getElem?_getD]
    rw [List.getElem?_append_left this]
  · obtain ⟨g1, g2⟩ := hK x hx
    have hlt := (List.getElem?_eq_some_iff.1 g2).1
    have hl2 : A.length + x.1 < (A ++ R).length := by simp; omega
    constructor
    · rw [htk]
      intro hi
      rcases List.mem_append.1 hi with hi | hi
      · exact g1 hi
      · have := List.mem_range'_1.1 hi
        omega
    · have h1 := hleft.keep _ hl2 g1
      rw [List.getElem?_append_right (by omega), List.getElem?_append_right (by omega), Nat.add_sub_cancel_left] at h1
      rw [h1]; exact g2
  · have hxl := (List.getElem?_eq_some_iff.1 hx).1
    rw [← hnm x hxl]
    have h1 := hat'.emb x o hx
    have e : o.ren (nm (ids.take W.length ++ List.range' (A ++ R).length (W'.length - W.length))) = o := by
      rw [obj_same (g := id) (n := 0) (fun y hy => by omega) ho]; exact obj_id o
    rw [e] at h1
    refine ⟨hge' _ ?_, h1⟩
    have : x < (ids.take W.length ++ List.range' (A ++ R).length (W'.length - W.length)).length := by rw [hat'.len]; exact hxl
    rw [nm_get (List.getElem?_eq_getElem this)]
    exact List.getElem_mem this
/-- The document's two slices, kept. -/
def KLs (o : Option (Nat × Nat)) (L : Tl) (K : Jl) : Prop := (o = none ∧ L = []) ∨ ∃ x, o = some (x + 1, 0) ∧ (x, .rw (lC L)) ∈ K
def KDs (o : Option (Nat × Nat)) (D : List Int) (K : Jl) : Prop := (o = none ∧ D = []) ∨ ∃ x a, o = some (x + 1, List.length a) ∧ (x, .rw (a ++ n64 D)) ∈ K
theorem KLs.sl {A0 : AObj} {R : Heap} {wid : Nat} {s : Ws} {K K' : Jl} {o : Option (Nat × Nat)} {L : Tl} (h : KLs o L K) (hL : LK [A0] R wid s K') (hK : ∀ x ∈ K, x ∈ K') : LSl (A0 :: R) o L := by
  rcases h with h | ⟨x, h1, h2⟩
  · exact .inl h
  · exact .inr ⟨x + 1, h1, hL.get _ (hK _ h2)⟩
theorem KDs.sl {A0 : AObj} {R : Heap} {wid : Nat} {s : Ws} {K K' : Jl} {o : Option (Nat × Nat)} {D : List Int} (h : KDs o D K) (hL : LK [A0] R wid s K') (hK : ∀ x ∈ K, x ∈ K') : DuS (A0 :: R) o D := by
  rcases h with h | ⟨x, a, h1, h2⟩
  · exact .inl h
  · exact .inr ⟨x + 1, a, h1, hL.get _ (hK _ h2)⟩
theorem KLs.up {K K' : Jl} {o : Option (Nat × Nat)} {L : Tl} (h : KLs o L K) (hK : ∀ x ∈ K, x ∈ K') : KLs o L K' := by
  rcases h with h | ⟨x, h1, h2⟩
  · exact .inl h
  · exact .inr ⟨x, h1, hK _ h2⟩
theorem KDs.up {K K' : Jl} {o : Option (Nat × Nat)} {D : List Int} (h : KDs o D K) (hK : ∀ x ∈ K, x ∈ K') : KDs o D K' := by
  rcases h with h | ⟨x, a, h1, h2⟩
  · exact .inl h
  · exact .inr ⟨x, a, h1, hK _ h2⟩
end Go.Proofs.YtmdilnelogechaaDoor.IR
