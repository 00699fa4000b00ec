/- This text of a proof shows: the law 'FifoOrder'. -/
import Derived.Test.YtjahkgfihdngkaaGg
import Derived.Test.YtjahkgfihdngkaaSk
import Derived.Test.YtjahkgfihdngkaaGa
set_option linter.unusedVariables false
set_option linter.unusedSimpArgs false
set_option linter.constructorNameAsVariable false
namespace Go.Proofs.Ytjahkgfihdngkaa.IR
open Go Go.Proofs.Ytjahkgfihdngkaa.Ev Go.Proofs.Ytjahkgfihdngkaa.Ev.Rb
set_option linter.unusedSimpArgs false
set_option linter.unusedVariables false
set_option maxHeartbeats 4000000
attribute [local go_sem] skipV nc0 nc1 nc2 nc3 bne_self_eq_false decide_true decide_false IOp.step Opd.ev Env.get initEnv Val.cells? Val.one List.all_cons List.all_nil Bool.and_true Bool.and_self Bool.true_and bin ints eqv Val.kindNo lenNo_s lenNo_nils lenNo_sl lenNo_nilm lenNo_m lenOf_s lenOf_nils lenOf_sl lenOf_nilm unary partsOf padTo List.foldl_cons List.foldl_nil wr_nil wr_step wr_zero List.set_cons_zero List.set_cons_succ List.map_cons List.map_nil z1 z2 Nat.succ_ne_zero List.length_cons List.length_nil List.cons_append List.nil_append List.append_nil List.getElem?_cons_zero List.getElem?_cons_succ List.getElem?_nil Option.map_some Option.map_none Nat.zero_add Nat.add_zero List.drop_zero List.drop_succ_cons List.take_succ_cons List.take_zero List.take_nil and_self and_true true_and Nat.le_refl Bool.not_true Bool.not_false Option.getD_some window Val.slen bnd resV resL RV.val Bool.false_eq_true BEq.rfl Bool.true_beq Bool.false_beq beq_true beq_false mk_one ite_true ite_false eqc ceqs ceq NOp.step isK eq_self
attribute [local go_sem] Bool.and_self Bool.not_true Nat.mul_one beq_self_eq_true bne_self_eq_false gV_no
attribute [local go_sem] nat_toNat
theorem sl_argO {sv : Val} {id n sz : Nat} (h : SlArg sv id n sz) : ∃ o : GO, (o = none ∨ o = gNew) ∧ (o = none → n = 0) ∧ sv = gV o id n sz := by
  rcases h with ⟨h1, h2⟩ | h
  · exact ⟨none, .inl rfl, fun _ => h1, h2⟩
  · exact ⟨gNew, .inr rfl, fun e => absurd e gNew_ne, h⟩
theorem ok_opsO {l : List Opr} (h : ∀ x ∈ l, (Lit.int .u8 x.1).wf = true ∧ (Lit.int .u64 x.2.1).wf = true ∧ (Lit.int .u64 x.2.2.1).wf = true ∧ (Lit.int .u64 x.2.2.2).wf = true) : ∀ x ∈ l, OpOk x := fun x hx => by
  have := (h x hx).2.1
  exact (by simpa [Lit.wf, IntKind.has, IntKind.min, IntKind.max, IntKind.bits, IntKind.signed] using this : 0 ≤ x.2.1 ∧ x.2.1 ≤ 18446744073709551615)
/-- What a map of keys holds: when each came, and what. -/
def esF (F : List (Nat × Int × Int × Int)) : List (Nat × Val × Val) := F.map fun x => (x.1, .agg [.i .u64 x.2.1, .i .u64 x.2.2.1], .i .u64 x.2.2.2)
theorem esF_ren (ι : Nat → Nat) (F : List (Nat × Int × Int × Int)) : (esF F).map (fun x => (x.1, x.2.1.ren ι, x.2.2.ren ι)) = esF F := by
  induction F with
  | nil => rfl
  | cons x F ih => simp [esF, Val.ren, renL]
theorem esF_wf (m : Nat) (F : List (Nat × Int × Int × Int)) : (esF F).all (fun x => x.2.1.wf m && x.2.2.wf m) = true := by
  induction F with
  | nil => rfl
  | cons x F ih => simp [esF, Val.wf, wfL]
theorem lenOf_mu (a : Nat) (H : Heap) : lenOf (.m a) H = (match H[a]? with | some (.map es _) => some (.i .i64 es.length) | _ => none) := rfl
theorem esF_len (F : List (Nat × Int × Int × Int)) : (esF F).length = F.length := by simp [esF]
theorem esF_mem {F : List (Nat × Int × Int × Int)} {x : Nat × Val × Val} (h : x ∈ esF F) : ∃ y ∈ F, x = (y.1, .agg [.i .u64 y.2.1, .i .u64 y.2.2.1], .i .u64 y.2.2.2) := by
  obtain ⟨y, hy, rfl⟩ := List.mem_map.1 h
  exact ⟨y, hy, rfl⟩
theorem fF_no {a b : Int} : ∀ {F : List (Nat × Int × Int × Int)} {i : Nat}, (∀ x ∈ F, ekey x.2 ≠ (a, b)) → findV (.st [.u64, .u64]) (.agg [.i .u64 a, .i .u64 b]) (esF F) i = some none
  | [], _, _ => rfl
  | x :: F, i, h => by
    have h1 := h x (by simp)
    have h2 := fF_no (F := F) (i := i + 1) fun y hy => h y (by simp [hy])
    have h3 : (a == x.2.1 && (b == x.2.2.1 && true)) = false := by
      simp only [ekey, ne_eq, Prod.mk.injEq, not_and] at h1
      by_cases e : a = x.2.1
      · have := h1 e.symm
        simp [e, Ne.symm this]
      · simp [e]
    simp only [esF, List.map_cons, findV, isK, isKs, decide_true, Bool.and_self, if_true, kq, kqs, h3, Bool.false_eq_true, if_false]
    exact h2
theorem fF_yes {a b : Int} {x : Nat × Int × Int × Int} {F2 : List (Nat × Int × Int × Int)} (hx : ekey x.2 = (a, b)) : ∀ {F : List (Nat × Int × Int × Int)} {i : Nat}, (∀ x ∈ F, ekey x.2 ≠ (a, b)) → findV (.st [.u64, .u64]) (.agg [.i .u64 a, .i .u64 b]) (esF (F ++ x :: F2)) i = some (some (i + F.length, .i .u64 x.2.2.2))
  | [], i, _ => by
    simp only [ekey, Prod.mk.injEq] at hx
    simp [esF, findV, isK, isKs, kq, kqs, hx.1, hx.2]
  | y :: F, i, h => by
    have h1 := h y (by simp)
    have h2 := fF_yes (F2 := F2) hx (F := F) (i := i + 1) fun y hy => h y (by simp [hy])
    have h3 : (a == y.2.1 && (b == y.2.2.1 && true)) = false := by
      simp only [ekey, ne_eq, Prod.mk.injEq, not_and] at h1
      by_cases e : a = y.2.1
      · have := h1 e.symm
        simp [e, Ne.symm this]
      · simp [e]
    simp only [List.cons_append, esF, List.map_cons, findV, isK, isKs, decide_true, Bool.and_self, if_true, kq, kqs, h3, Bool.false_eq_true, if_false, List.length_cons]
    rw [show i + (F.length + 1) = i + 1 + F.length by omega]
    exact h2
theorem F_split {a b : Int} : ∀ (F : List (Nat × Int × Int × Int)), (∀ x ∈ F, ekey x.2 ≠ (a, b)) ∨ ∃ F1 x F2, F = F1 ++ x :: F2 ∧ ekey x.2 = (a, b) ∧ ∀ x ∈ F1, ekey x.2 ≠ (a, b)
  | [] => .inl (by simp)
  | x :: F => by
    by_cases e : ekey x.2 = (a, b)
    · exact .inr ⟨[], x, F, rfl, e, by simp⟩
    · rcases F_split F with h | ⟨F1, y, F2, rfl, h1, h2⟩
      · exact .inl fun y hy => by
          rcases List.mem_cons.1 hy with rfl | hy
          · exact e
          · exact h y hy
      · exact .inr ⟨x :: F1, y, F2, rfl, h1, fun y hy => by
          rcases List.mem_cons.1 hy with rfl | hy
          · exact e
          · exact h2 y hy⟩
section
variable {e : Opd → Val} {H : Heap} {id ck : Nat} {F F1 F2 : List (Nat × Int × Int × Int)} {m k x : Opd} {a b v : Int} {y : Nat × Int × Int × Int}
theorem mupF (hm : e m = .m id) (hk : e k = .agg [.i .u64 a, .i .u64 b]) (hx : e x = .i .u64 v) (hH : H[id]? = some (.map (esF F) ck)) (h : ∀ z ∈ F, ekey z.2 ≠ (a, b)) :
    (NOp.mup (.st [.u64, .u64]) m k x).step e H = some [(.u, H.set id (.map (esF (F ++ [(ck, a, b, v)])) (ck + 1)))] := by
  have h0 := fF_no (i := 0) h
  simp only [NOp.step, hm, hH, hk, isK, isKs, decide_true, Bool.and_self, if_true, h0, hx]
  simp [esF]
theorem lkpF_no (z : Val) (hm : e m = .m id) (hk : e k = .agg [.i .u64 a, .i .u64 b]) (hH : H[id]? = some (.map (esF F) ck)) (h : ∀ z ∈ F, ekey z.2 ≠ (a, b)) :
    (IOp.lkp (.st [.u64, .u64]) true z m k).step e H = some (.tup [z, .b false], H) := by
  simp [IOp.step, hm, hH, hk, isK, isKs, fF_no h]
theorem lkpF_yes (z : Val) (hm : e m = .m id) (hk : e k = .agg [.i .u64 a, .i .u64 b]) (hH : H[id]? = some (.map (esF (F1 ++ y :: F2)) ck)) (hy : ekey y.2 = (a, b)) (h : ∀ z ∈ F1, ekey z.2 ≠ (a, b)) :
    (IOp.lkp (.st [.u64, .u64]) true z m k).step e H = some (.tup [.i .u64 y.2.2.2, .b true], H) := by
  simp [IOp.step, hm, hH, hk, isK, isKs, fF_yes hy h]
theorem mdlF_no (hm : e m = .m id) (hk : e k = .agg [.i .u64 a, .i .u64 b]) (hH : H[id]? = some (.map (esF F) ck)) (h : ∀ z ∈ F, ekey z.2 ≠ (a, b)) :
    (NOp.mdl (.st [.u64, .u64]) m k).step e H = some [(.tup [], H.set id (.map (esF F) ck))] := by
  simp [NOp.step, hm, hH, hk, isK, isKs, fF_no h]
theorem mdlF_yes (hm : e m = .m id) (hk : e k = .agg [.i .u64 a, .i .u64 b]) (hH : H[id]? = some (.map (esF (F1 ++ y :: F2)) ck)) (hy : ekey y.2 = (a, b)) (h : ∀ z ∈ F1, ekey z.2 ≠ (a, b)) :
    (NOp.mdl (.st [.u64, .u64]) m k).step e H = some [(.tup [], H.set id (.map (esF (F1 ++ F2)) ck))] := by
  have h0 := fF_yes (i := 0) (F2 := F2) hy h
  simp only [NOp.step, hm, hH, hk, isK, isKs, decide_true, Bool.and_self, if_true, h0]
  have h1 : (esF (F1 ++ y :: F2)).eraseIdx (0 + F1.length) = esF (F1 ++ F2) := by
    simp [esF, List.eraseIdx_append_of_length_le]
  rw [h1]
theorem nxtF {mid : Nat} {seen : List Nat} (hx : e x = .p id 0) (hi : H[id]? = some (.iter mid ck seen ck)) (hm : H[mid]? = some (.map (esF F) ck)) (h : ∀ z ∈ F, z.1 < ck) :
    (NOp.nxt x).step e H = some ((cands (esF F) ck seen).map (nxtOut id mid ck ck seen H)) := by
  have ht : (!seen.isEmpty && !(esF F).isEmpty && (esF F).all fun x => decide (x.1 ≥ ck)) = false := by
    cases F with
    | nil => simp [esF]
    | cons z r =>
      have := h z (by simp)
      simp [esF]; omega
  simp only [NOp.step, hx, hi, hm, ht, Bool.false_eq_true, if_false]
theorem candsF {seen : List Nat} {q : Option (Nat × Val × Val)} (hq : q ∈ cands (esF F) ck seen) : q = none ∨ ∃ z ∈ F, z.1 ∉ seen ∧ q = some (z.1, .agg [.i .u64 z.2.1, .i .u64 z.2.2.1], .i .u64 z.2.2.2) := by
  unfold cands at hq
  rcases List.mem_append.1 hq with hq | hq
  · split at hq
    · simp at hq; exact .inl hq
    · simp at hq
  · obtain ⟨x, hx, rfl⟩ := List.mem_map.1 hq
    have : x ∈ esF F ∧ x.1 ∉ seen := by
      rcases List.mem_append.1 hx with hx | hx
      · have := (List.mem_filter.1 (List.mem_filter.1 hx).1)
        exact ⟨this.1, by simpa using this.2⟩
      · have := (List.mem_filter.1 (List.mem_filter.1 hx).1)
        exact ⟨this.1, by simpa using this.2⟩
    obtain ⟨z, hz, rfl⟩ := esF_mem this.1
    exact .inr ⟨z, hz, this.2, rfl⟩
theorem entF0 {z : Nat × Int × Int × Int} (hz : z ∈ F) : ∃ y ∈ F, (esF F).find? (fun w => w.1 == z.1) = some (y.1, .agg [.i .u64 y.2.1, .i .u64 y.2.2.1], .i .u64 y.2.2.2) := by
  cases hq : (esF F).find? (fun w => w.1 == z.1) with
  | none =>
    have := List.find?_eq_none.1 hq (z.1, .agg [.i .u64 z.2.1, .i .u64 z.2.2.1], .i .u64 z.2.2.2) (List.mem_map.2 ⟨z, hz, rfl⟩)
    simp at this
  | some w =>
    obtain ⟨y, hy, rfl⟩ := esF_mem (List.mem_of_find?_eq_some hq)
    exact ⟨y, hy, rfl⟩
theorem entF1 {mid n : Nat} {seen : List Nat} (hx : e x = .p id 0) (hi : H[id]? = some (.iter mid ck (seen ++ [n]) ck)) (hm : H[mid]? = some (.map (esF F) ck)) (hf : (esF F).find? (fun w => w.1 == n) = some (y.1, .agg [.i .u64 y.2.1, .i .u64 y.2.2.1], .i .u64 y.2.2.2)) :
    (IOp.ent x).step e H = some (.tup [.agg [.i .u64 y.2.1, .i .u64 y.2.2.1], .i .u64 y.2.2.2], H) := by
  simp only [IOp.step, hx, hi, hm, List.getLast?_append, List.getLast?_singleton, Option.some_or, if_true, hf]
end
def left_ (F : List (Nat × Int × Int × Int)) (seen : List Nat) : Nat := (F.filter fun x => !seen.contains x.1).length
theorem left_lt {F : List (Nat × Int × Int × Int)} {seen : List Nat} {z : Nat × Int × Int × Int} (hz : z ∈ F) (h : z.1 ∉ seen) : left_ F (seen ++ [z.1]) < left_ F seen := by
  unfold left_
  have le : ∀ l : List (Nat × Int × Int × Int), (l.filter fun x => !(seen ++ [z.1]).contains x.1).length ≤ (l.filter fun x => !seen.contains x.1).length := by
    intro l
    induction l with
    | nil => simp
    | cons x l ih =>
      simp only [List.filter_cons]
      by_cases h1 : x.1 ∈ seen
      · simp [h1]; simpa using ih
      · by_cases h2 : x.1 = z.1
        · simp [h2, h]; have := ih; simp at this; omega
        · simp [h1, h2]; simpa using ih
  induction F with
  | nil => cases hz
  | cons x l ih =>
    simp only [List.filter_cons]
    by_cases h2 : x.1 = z.1
    · have := le l
      simp [h2, h]; simp at this; omega
    · have hm' : z ∈ l := by
        rcases List.mem_cons.1 hz with q | q
        · exact absurd (by rw [q]) h2
        · exact q
      have := ih hm'
      by_cases h1 : x.1 ∈ seen
      · simp [h1]; simpa using this
      · simp [h1, h2]; simpa using this
/-- What came in between and is still there. -/
structure FI (F : List (Nat × Int × Int × Int)) (ck : Nat) (M : List (Int × Int × Int)) : Prop where
  lt : ∀ x ∈ F, x.1 < ck
  mem : ∀ x ∈ F, x.2 ∈ M
  apart : F.Pairwise fun x y => ekey x.2 ≠ ekey y.2
theorem FI.nil {M : List (Int × Int × Int)} : FI [] 0 M := ⟨by simp, by simp, .nil⟩
theorem FI.more {F : List (Nat × Int × Int × Int)} {ck : Nat} {M : List (Int × Int × Int)} (h : FI F ck M) {a b v : Int} (hn : ∀ y ∈ M, ekey y ≠ (a, b)) : FI (F ++ [(ck, a, b, v)]) (ck + 1) (ins (a, b, v) M) := by
  refine ⟨fun x hx => ?_, fun x hx => ?_, ?_⟩
  · rcases List.mem_append.1 hx with hx | hx
    · have := h.lt x hx; omega
    · rw [List.mem_singleton] at hx; subst hx; exact Nat.lt_succ_self _
  · rcases List.mem_append.1 hx with hx | hx
    · exact ins_mem.2 (.inr (h.mem x hx))
    · rw [List.mem_singleton] at hx; subst hx; exact ins_mem.2 (.inl rfl)
  · refine List.pairwise_append.2 ⟨h.apart, by simp, fun x hx y hy => ?_⟩
    rw [List.mem_singleton] at hy; subst hy
    exact hn _ (h.mem x hx)
theorem FI.none {F : List (Nat × Int × Int × Int)} {ck : Nat} {y : Int × Int × Int} {M : List (Int × Int × Int)} (h : FI F ck (y :: M)) (hn : ∀ x ∈ F, ekey x.2 ≠ (y.1, y.2.1)) : FI F ck M := by
  refine ⟨h.lt, fun x hx => ?_, h.apart⟩
  rcases List.mem_cons.1 (h.mem x hx) with q | q
  · exact absurd (by rw [q]; rfl) (hn x hx)
  · exact q
theorem FI.less {F1 F2 : List (Nat × Int × Int × Int)} {x : Nat × Int × Int × Int} {ck : Nat} {y : Int × Int × Int} {M : List (Int × Int × Int)} (h : FI (F1 ++ x :: F2) ck (y :: M)) (hx : ekey x.2 = (y.1, y.2.1)) : FI (F1 ++ F2) ck M := by
  have hp := h.apart
  have hp' : (x :: (F1 ++ F2)).Pairwise fun x y => ekey x.2 ≠ ekey y.2 := (List.perm_middle.pairwise_iff fun h => Ne.symm h).1 hp
  rw [List.pairwise_cons] at hp'
  have hsub : ∀ z ∈ F1 ++ F2, z ∈ F1 ++ x :: F2 := fun z hz => by
    rcases List.mem_append.1 hz with hz | hz <;> simp [hz]
  refine ⟨fun z hz => h.lt z (hsub z hz), fun z hz => ?_, hp'.2⟩
  rcases List.mem_cons.1 (h.mem z (hsub z hz)) with q | q
  · exact absurd (by rw [hx, q]; rfl) (hp'.1 z hz)
  · exact q
def OI1 (l0 l1 : List Opr) (o2 oa : GO) (q : Fq) (M : List (Int × Int × Int)) (n : Nat) (ρ : Env) (H : Heap) : Prop :=
  ∃ (i : Nat) (tw : Fq) (a b : Int), i ≤ M.length ∧ n = M.length - i ∧ FR tw (M.drop i) ∧ (0 < i → ∃ y, M[i - 1]? = some y ∧ ekey y = (a, b)) ∧
    AnewS 2 ([.ro (opsC l0), .ro (opsC l1)] ++ fHb 2 q ++ [gO oa (hs M)] ++ fHb 8 tw ++ [.rw [.i .u64 a, .i .u64 b]]) [(1, gV o2 1 l1.length 4), (5, .p 2 0), (8, .p 8 0), (10, .p 13 0), (43, gV oa 7 M.length 1), (44, .i .i64 (M.length : Nat)), (45, .i .i64 (i : Nat))] ρ H
def OI2 (l0 l1 : List Opr) (o2 : GO) (n : Nat) (ρ : Env) (H : Heap) : Prop :=
  ∃ (q : Fq) (M : List (Int × Int × Int)) (F : List (Nat × Int × Int × Int)) (ck pu st : Nat), FR q M ∧ q.room = 40 ∧ FI F ck M ∧ pu ≤ 20 ∧ st ≤ 60 ∧ st + M.length ≤ 40 + pu ∧ n = 200 - st ∧
    AnewS 2 ([.ro (opsC l0), .ro (opsC l1)] ++ fHb 2 q ++ [.map (esF F) ck]) [(1, gV o2 1 l1.length 4), (5, .p 2 0), (16, .m 7), (17, .i .i64 (pu : Nat)), (18, .i .i64 (st : Nat))] ρ H
def OM2 (l0 l1 : List Opr) (o2 : GO) (st : Nat) (ρ : Env) (H : Heap) : Prop :=
  ∃ (q : Fq) (y : Int × Int × Int) (M : List (Int × Int × Int)) (F : List (Nat × Int × Int × Int)) (ck pu : Nat), FR q (y :: M) ∧ q.room = 40 ∧ FI F ck (y :: M) ∧ pu ≤ 20 ∧ st + M.length + 1 ≤ 40 + pu ∧
    AnewS 2 ([.ro (opsC l0), .ro (opsC l1)] ++ fHb 2 q ++ [.map (esF F) ck]) [(1, gV o2 1 l1.length 4), (5, .p 2 0), (16, .m 7), (17, .i .i64 (pu : Nat)), (18, .i .i64 (st : Nat))] ρ H
def OI3 (l0 l1 : List Opr) (o2 : GO) (q : Fq) (y : Int × Int × Int) (F : List (Nat × Int × Int × Int)) (ck pu st : Nat) (n : Nat) (ρ : Env) (H : Heap) : Prop :=
  ∃ seen : List Nat, n = left_ F seen ∧
    AnewS 2 ([.ro (opsC l0), .ro (opsC l1)] ++ fHb 2 q ++ [.map (esF F) ck, .rw [.i .u64 y.1, .i .u64 y.2.1], .iter 7 ck seen ck]) [(1, gV o2 1 l1.length 4), (5, .p 2 0), (16, .m 7), (17, .i .i64 (pu : Nat)), (18, .i .i64 (st : Nat)), (21, .p 8 0), (23, .i .u64 y.2.2), (135, .p 9 0)] ρ H
theorem FifoOrder_sound (l0 : List (Int × Int × Int × Int)) (sv0 : Val) (l1 : List (Int × Int × Int × Int)) (sv1 : Val)
    (s0 : SlArg sv0 0 l0.length 4) (m0 : l0.length ≤ maxLen) (e0 : ∀ x ∈ l0, (Lit.int .u8 x.1).wf = true ∧ (Lit.int .u64 x.2.1).wf = true ∧ (Lit.int .u64 x.2.2.1).wf = true ∧ (Lit.int .u64 x.2.2.2).wf = true) (s1 : SlArg sv1 1 l1.length 4) (m1 : l1.length ≤ maxLen) (e1 : ∀ x ∈ l1, (Lit.int .u8 x.1).wf = true ∧ (Lit.int .u64 x.2.1).wf = true ∧ (Lit.int .u64 x.2.2.1).wf = true ∧ (Lit.int .u64 x.2.2.2).wf = true) :
    SoundM Try.prog 2 4 [sv0, sv1] [.ro (l0.flatMap fun x => [.i .u8 x.1, .i .u64 x.2.1, .i .u64 x.2.2.1, .i .u64 x.2.2.2]), .ro (l1.flatMap fun x => [.i .u8 x.1, .i .u64 x.2.1, .i .u64 x.2.2.1, .i .u64 x.2.2.2])] (fun v _ => v = .b true) := by
  obtain ⟨o, ho, hn, rfl⟩ := sl_argO s0
  obtain ⟨o2, ho2, hn2, rfl⟩ := sl_argO s1
  have hok := ok_opsO e0
  have hok1 := ok_opsO e1
  have hml : l0.length ≤ 9223372036854775807 := Nat.le_trans m0 (by decide)
  have hml1 : l1.length ≤ 9223372036854775807 := Nat.le_trans m1 (by decide)
  show SoundM _ _ _ _ [.ro (opsC l0), .ro (opsC l1)] _
  refine (sound_func Try.func4 c4 rfl (by simp) ?_)
  have go : gC o := gC_of ho
  have go2 : gC o2 := gC_of ho2
  simp only [e4]
  have hpl := played_c l0 o l0.length ho hn (Nat.le_refl _) hml hok
  refine GG0 ?_
  (first | ((with_reducible first | apply RunP.call | apply Run.call | apply Run.call0); iterate 2 (· (simp only [go_sem, reduceIte, Nat.reduceEqDiff]; (try with_reducible exact rfl)))) | ((with_reducible first | apply Run.callY | apply RunP.callY); iterate 3 (· (simp only [go_sem, reduceIte, Nat.reduceEqDiff]; (try with_reducible exact rfl)))))
  refine sound_use (hpl) [0] rfl (by decide) ?_ ?_ ?_ ?_ ?_; iterate 4 (· simp [-List.map_map, embAt, nm, rn_rw, rn_ro, rn_map, rn_iter, rn_dead, renL, Val.ren, wfAll, wn_rw, wn_ro, wn_map, wn_iter, wn_dead, wfL, Val.wf, Env.get, initEnv, tH, fH, fHb, TS.cells, encF_ren, encF_wf, fv_ren, fv_wf, fobj_ren, fobj_wf, gV_ren, gV_wf, gOr_ren, gOr_wf, gOh_ren, gOh_wf, ops_ren, ops_wf, esF_ren, esF_wf, go])
  rintro v C' ⟨q, hq, hr, rfl, rfl⟩
  obtain ⟨M, hM⟩ : ∃ M, M = playM 40 (l0.take (min l0.length 60)) := ⟨_, rfl⟩
  rw [← hM] at hq
  have hg := hq.gc
  have hle := hq.le
  rw [hr] at hle
  simp only [merge, place, after, nm, MG, Val.ren, renL, rn_rw, rn_ro, rn_map, rn_iter, rn_dead, reduceIte, Nat.reduceLT, Nat.reduceAdd, Nat.reduceSub, Nat.lt_irrefl, Nat.zero_lt_one, Nat.zero_lt_succ, tH, fH, fHb, TS.cells, encF_ren, encF_wf, fv_ren, fv_wf, fobj_ren, fobj_wf, gV_ren, gV_wf, gOr_ren, gOr_wf, gOh_ren, gOh_wf, ops_ren, ops_wf, esF_ren, esF_wf, hg]
  refine GG0 ?_
  (first | ((with_reducible first | apply RunP.call | apply Run.call | apply Run.call0); iterate 2 (· (simp only [go_sem, reduceIte, Nat.reduceEqDiff]; (try with_reducible exact rfl)))) | ((with_reducible first | apply Run.callY | apply RunP.callY); iterate 3 (· (simp only [go_sem, reduceIte, Nat.reduceEqDiff]; (try with_reducible exact rfl)))))
  refine sound_use (fall_c q M hq (by omega)) [2, 3, 4, 5, 6] rfl (by decide) ?_ ?_ ?_ ?_ ?_; iterate 4 (· simp [-List.map_map, embAt, nm, rn_rw, rn_ro, rn_map, rn_iter, rn_dead, renL, Val.ren, wfAll, wn_rw, wn_ro, wn_map, wn_iter, wn_dead, wfL, Val.wf, Env.get, initEnv, tH, fH, fHb, TS.cells, encF_ren, encF_wf, fv_ren, fv_wf, fobj_ren, fobj_wf, gV_ren, gV_wf, gOr_ren, gOr_wf, gOh_ren, gOh_wf, ops_ren, ops_wf, esF_ren, esF_wf, hg])
  rintro v C' ⟨oa, hoa, noa, rfl, rfl⟩
  have goa := gC_of hoa
  simp only [merge, place, after, nm, MG, Val.ren, renL, rn_rw, rn_ro, rn_map, rn_iter, rn_dead, reduceIte, Nat.reduceLT, Nat.reduceAdd, Nat.reduceSub, Nat.lt_irrefl, Nat.zero_lt_one, Nat.zero_lt_succ, tH, fH, fHb, TS.cells, encF_ren, encF_wf, fv_ren, fv_wf, fobj_ren, fobj_wf, gV_ren, gV_wf, gOr_ren, gOr_wf, gOh_ren, gOh_wf, ops_ren, ops_wf, esF_ren, esF_wf, hg, go, goa]
  refine GG0 ?_
  (first | ((with_reducible first | apply RunP.call | apply Run.call | apply Run.call0); iterate 2 (· (simp only [go_sem, reduceIte, Nat.reduceEqDiff]; (try with_reducible exact rfl)))) | ((with_reducible first | apply Run.callY | apply RunP.callY); iterate 3 (· (simp only [go_sem, reduceIte, Nat.reduceEqDiff]; (try with_reducible exact rfl)))))
  refine sound_use (hpl) [0] rfl (by decide) ?_ ?_ ?_ ?_ ?_; iterate 4 (· simp [-List.map_map, embAt, nm, rn_rw, rn_ro, rn_map, rn_iter, rn_dead, renL, Val.ren, wfAll, wn_rw, wn_ro, wn_map, wn_iter, wn_dead, wfL, Val.wf, Env.get, initEnv, tH, fH, fHb, TS.cells, encF_ren, encF_wf, fv_ren, fv_wf, fobj_ren, fobj_wf, gV_ren, gV_wf, gOr_ren, gOr_wf, gOh_ren, gOh_wf, ops_ren, ops_wf, esF_ren, esF_wf, go])
  rintro v C' ⟨tw, htw, hrt, rfl, rfl⟩
  rw [← hM] at htw
  have hgt := htw.gc
  simp only [merge, place, after, nm, MG, Val.ren, renL, rn_rw, rn_ro, rn_map, rn_iter, rn_dead, reduceIte, Nat.reduceLT, Nat.reduceAdd, Nat.reduceSub, Nat.lt_irrefl, Nat.zero_lt_one, Nat.zero_lt_succ, tH, fH, fHb, TS.cells, encF_ren, encF_wf, fv_ren, fv_wf, fobj_ren, fobj_wf, gV_ren, gV_wf, gOr_ren, gOr_wf, gOh_ren, gOh_wf, ops_ren, ops_wf, esF_ren, esF_wf, hgt]
  (have g0 := gV_len noa; refine GG1 ?_; clear g0)
  refine ei_loop (OI1 l0 l1 o2 oa q M) (n := M.length) ?_ ?_
  · refine ⟨0, tw, 0, 0, by omega, by omega, htw, fun h => absurd h (by omega), ?_⟩
    (refine anew [0, 1, 2, 3, 4, 5, 6, 7, 8, 9, 10, 11, 12, 13] ?_ (by decide) ?_ ?_ ?_ rfl ?_ ?_ <;> simp [-List.map_map, embAt, nm, rn_rw, rn_ro, rn_map, rn_iter, rn_dead, renL, Val.ren, wfAll, wn_rw, wn_ro, wn_map, wn_iter, wn_dead, wfL, Val.wf, Env.get, initEnv, tH, fH, fHb, TS.cells, encF_ren, encF_wf, fv_ren, fv_wf, fobj_ren, fobj_wf, gV_ren, gV_wf, gOr_ren, gOr_wf, gOh_ren, gOh_wf, ops_ren, ops_wf, esF_ren, esF_wf, hg, hgt, go2, goa])
  · rintro n' ρ H ⟨i, tw, a, b, hi, rfl, htw, hlast, ha⟩
    refine ei_anewS ha ?_
    clear ha hgt hrt
    have hgt := htw.gc
    simp only [fHb, TS.cells, List.cons_append, List.nil_append]
    by_cases hik : i = M.length
    · subst hik
      have hz : ¬ (((M.length : Nat) : Int) < ((M.length : Nat) : Int)) := by omega
      rw [List.drop_length] at htw
      have hmin : mxs true (.i .i64 ((l1.length : Nat) : Int)) [.i .i64 20] = some (.i .i64 ((min l1.length 20 : Nat) : Int)) := by
        rcases Nat.le_total l1.length 20 with h | h
        · rw [mn_lo (by omega), Nat.min_eq_left h]
        · rw [mn_hi (by omega), Nat.min_eq_right h]; rfl
      obtain ⟨k, hk, hk20, hkl⟩ : ∃ k, k = min l1.length 20 ∧ k ≤ 20 ∧ k ≤ l1.length := ⟨_, rfl, by omega, by omega⟩
      rw [← hk] at hmin
      (have g0 := decide_f hz; refine GG1 ?_; clear g0)
      (first | ((with_reducible first | apply RunP.call | apply Run.call | apply Run.call0); iterate 2 (· (simp only [go_sem, reduceIte, Nat.reduceEqDiff]; (try with_reducible exact rfl)))) | ((with_reducible first | apply Run.callY | apply RunP.callY); iterate 3 (· (simp only [go_sem, reduceIte, Nat.reduceEqDiff]; (try with_reducible exact rfl)))))
      refine sound_use (flen_c tw [] htw) [8, 9, 10, 11, 12] rfl (by decide) ?_ ?_ ?_ ?_ ?_; iterate 4 (· simp [-List.map_map, embAt, nm, rn_rw, rn_ro, rn_map, rn_iter, rn_dead, renL, Val.ren, wfAll, wn_rw, wn_ro, wn_map, wn_iter, wn_dead, wfL, Val.wf, Env.get, initEnv, tH, fH, fHb, TS.cells, encF_ren, encF_wf, fv_ren, fv_wf, fobj_ren, fobj_wf, gV_ren, gV_wf, gOr_ren, gOr_wf, gOh_ren, gOh_wf, ops_ren, ops_wf, esF_ren, esF_wf, hgt])
      rintro v C' ⟨rfl, rfl⟩
      simp only [merge, place, after, nm, MG, Val.ren, renL, rn_rw, rn_ro, rn_map, rn_iter, rn_dead, reduceIte, Nat.reduceLT, Nat.reduceAdd, Nat.reduceSub, Nat.lt_irrefl, Nat.zero_lt_one, Nat.zero_lt_succ, tH, fH, fHb, TS.cells, encF_ren, encF_wf, fv_ren, fv_wf, fobj_ren, fobj_wf, gV_ren, gV_wf, gOr_ren, gOr_wf, gOh_ren, gOh_wf, ops_ren, ops_wf, esF_ren, esF_wf, hgt]
      refine GG0 ?_
      refine ei_loop (OI2 l0 l1 o2) (n := 200) ?_ ?_
      · refine ⟨q, M, [], 0, 0, 0, hq, hr, FI.nil, by omega, by omega, by omega, by omega, ?_⟩
        rw [show esF [] = [] from rfl]
        (refine anew [0, 1, 2, 3, 4, 5, 6, 14] ?_ (by decide) ?_ ?_ ?_ rfl ?_ ?_ <;> simp [-List.map_map, embAt, nm, rn_rw, rn_ro, rn_map, rn_iter, rn_dead, renL, Val.ren, wfAll, wn_rw, wn_ro, wn_map, wn_iter, wn_dead, wfL, Val.wf, Env.get, initEnv, tH, fH, fHb, TS.cells, encF_ren, encF_wf, fv_ren, fv_wf, fobj_ren, fobj_wf, gV_ren, gV_wf, gOr_ren, gOr_wf, gOh_ren, gOh_wf, ops_ren, ops_wf, esF_ren, esF_wf, hg, go2])
      · clear hq hr hg hle hM htw hgt hlast hpl hz hi
        rintro n' ρ H ⟨q, M, F, ck, pu, st, hq, hr, hF, hpu, hst, hsum, rfl, ha⟩
        refine ei_anewS ha ?_
        clear ha
        have hg := hq.gc
        have hs := hq.sorted
        simp only [fHb, TS.cells, List.cons_append, List.nil_append]
        refine GG0 ?_
        (first | ((with_reducible first | apply RunP.call | apply Run.call | apply Run.call0); iterate 2 (· (simp only [go_sem, reduceIte, Nat.reduceEqDiff]; (try with_reducible exact rfl)))) | ((with_reducible first | apply Run.callY | apply RunP.callY); iterate 3 (· (simp only [go_sem, reduceIte, Nat.reduceEqDiff]; (try with_reducible exact rfl)))))
        refine sound_use (flen_c q M hq) [2, 3, 4, 5, 6] rfl (by decide) ?_ ?_ ?_ ?_ ?_; iterate 4 (· simp [-List.map_map, embAt, nm, rn_rw, rn_ro, rn_map, rn_iter, rn_dead, renL, Val.ren, wfAll, wn_rw, wn_ro, wn_map, wn_iter, wn_dead, wfL, Val.wf, Env.get, initEnv, tH, fH, fHb, TS.cells, encF_ren, encF_wf, fv_ren, fv_wf, fobj_ren, fobj_wf, gV_ren, gV_wf, gOr_ren, gOr_wf, gOh_ren, gOh_wf, ops_ren, ops_wf, esF_ren, esF_wf, hg])
        rintro v C' ⟨rfl, rfl⟩
        simp only [merge, place, after, nm, MG, Val.ren, renL, rn_rw, rn_ro, rn_map, rn_iter, rn_dead, reduceIte, Nat.reduceLT, Nat.reduceAdd, Nat.reduceSub, Nat.lt_irrefl, Nat.zero_lt_one, Nat.zero_lt_succ, tH, fH, fHb, TS.cells, encF_ren, encF_wf, fv_ren, fv_wf, fobj_ren, fobj_wf, gV_ren, gV_wf, gOr_ren, gOr_wf, gOh_ren, gOh_wf, ops_ren, ops_wf, esF_ren, esF_wf, hg]
        rcases M with _ | ⟨y, M⟩
        · have hFn : F = [] := by
            cases F with
            | nil => rfl
            | cons x F => exact absurd (hF.mem x (by simp)) (by simp)
          subst hFn
          have hz : ¬ ((0 : Int) > 0) := by omega
          (have g0 := decide_f hz; refine GG1 ?_; clear g0)
          (first | ((with_reducible first | apply RunP.call | apply Run.call | apply Run.call0); iterate 2 (· (simp only [go_sem, reduceIte, Nat.reduceEqDiff]; (try with_reducible exact rfl)))) | ((with_reducible first | apply Run.callY | apply RunP.callY); iterate 3 (· (simp only [go_sem, reduceIte, Nat.reduceEqDiff]; (try with_reducible exact rfl)))))
          refine sound_use (flen_c q [] hq) [2, 3, 4, 5, 6] rfl (by decide) ?_ ?_ ?_ ?_ ?_; iterate 4 (· simp [-List.map_map, embAt, nm, rn_rw, rn_ro, rn_map, rn_iter, rn_dead, renL, Val.ren, wfAll, wn_rw, wn_ro, wn_map, wn_iter, wn_dead, wfL, Val.wf, Env.get, initEnv, tH, fH, fHb, TS.cells, encF_ren, encF_wf, fv_ren, fv_wf, fobj_ren, fobj_wf, gV_ren, gV_wf, gOr_ren, gOr_wf, gOh_ren, gOh_wf, ops_ren, ops_wf, esF_ren, esF_wf, hg])
          rintro v C' ⟨rfl, rfl⟩
          simp only [merge, place, after, nm, MG, Val.ren, renL, rn_rw, rn_ro, rn_map, rn_iter, rn_dead, reduceIte, Nat.reduceLT, Nat.reduceAdd, Nat.reduceSub, Nat.lt_irrefl, Nat.zero_lt_one, Nat.zero_lt_succ, tH, fH, fHb, TS.cells, encF_ren, encF_wf, fv_ren, fv_wf, fobj_ren, fobj_wf, gV_ren, gV_wf, gOr_ren, gOr_wf, gOh_ren, gOh_wf, ops_ren, ops_wf, esF_ren, esF_wf, hg]
          (have g0 := lenOf_mu; have g1 := esF_len; refine GG2 ?_; clear g0 g1)
          (first | ((with_reducible first | apply RunP.call | apply Run.call | apply Run.call0); iterate 2 (· (simp only [go_sem, reduceIte, Nat.reduceEqDiff]; (try with_reducible exact rfl)))) | ((with_reducible first | apply Run.callY | apply RunP.callY); iterate 3 (· (simp only [go_sem, reduceIte, Nat.reduceEqDiff]; (try with_reducible exact rfl)))))
          refine (awake_sound _).mono ?_
          rintro v H' ⟨rfl, rfl⟩
          refine GG0 ?_
          rfl
        · have hz : (((M.length + 1 : Nat) : Int) > 0) := by omega
          have hz2 : ((st : Nat) : Int) < 200 := by omega
          simp only [List.length_cons] at hsum
          (have g0 := decide_t hz; have g1 := decide_t hz2; have g2 := gV_len hn2; have g3 := hmin; refine GG4 ?_; clear g0 g1 g2 g3)
          refine ei_mid (M := OM2 l0 l1 o2 st) ?_ ?_
          · by_cases hp : pu < k
            · have hb : (((pu : Nat) : Int) < ((k : Nat) : Int)) := by omega
              obtain ⟨x, hx⟩ : ∃ x, l1[pu]? = some x := ⟨l1[pu], List.getElem?_eq_getElem (by omega)⟩
              obtain ⟨hw1, hw2⟩ := ops_win hx
              have hv := hok1 x (List.mem_of_getElem? hx)
              rcases ho2 with rfl | rfl
              · exact absurd (hn2 rfl) (by omega)
              simp only [gV_new, opC] at hw1 ⊢
              have hp := push_c q _ hq (x.2.2.1, x.2.2.2) x.2.1 hv
              rw [hr] at hp
              (have g0 := decide_t hb; have g1 := hw1; refine GG2 ?_; clear g0 g1)
              (first | ((with_reducible first | apply RunP.call | apply Run.call | apply Run.call0); iterate 2 (· (simp only [go_sem, reduceIte, Nat.reduceEqDiff]; (try with_reducible exact rfl)))) | ((with_reducible first | apply Run.callY | apply RunP.callY); iterate 3 (· (simp only [go_sem, reduceIte, Nat.reduceEqDiff]; (try with_reducible exact rfl)))))
              refine sound_use (hp) [2, 3, 4, 5, 6] rfl (by decide) ?_ ?_ ?_ ?_ ?_; iterate 4 (· simp [-List.map_map, embAt, nm, rn_rw, rn_ro, rn_map, rn_iter, rn_dead, renL, Val.ren, wfAll, wn_rw, wn_ro, wn_map, wn_iter, wn_dead, wfL, Val.wf, Env.get, initEnv, tH, fH, fHb, TS.cells, encF_ren, encF_wf, fv_ren, fv_wf, fobj_ren, fobj_wf, gV_ren, gV_wf, gOr_ren, gOr_wf, gOh_ren, gOh_wf, ops_ren, ops_wf, esF_ren, esF_wf, hg])
              rintro v C' ⟨rfl, q1, hq1, hr1, rfl⟩
              have hg1 := hq1.gc
              have hr2 := hr1.trans hr
              clear hp
              simp only [merge, place, after, nm, MG, Val.ren, renL, rn_rw, rn_ro, rn_map, rn_iter, rn_dead, reduceIte, Nat.reduceLT, Nat.reduceAdd, Nat.reduceSub, Nat.lt_irrefl, Nat.zero_lt_one, Nat.zero_lt_succ, tH, fH, fHb, TS.cells, encF_ren, encF_wf, fv_ren, fv_wf, fobj_ren, fobj_wf, gV_ren, gV_wf, gOr_ren, gOr_wf, gOh_ren, gOh_wf, ops_ren, ops_wf, esF_ren, esF_wf, hg1]
              by_cases hh : has (x.2.2.1, x.2.2.2) (y :: M) = true
              · have hE : putE (x.2.2.1, x.2.2.2) x.2.1 40 (y :: M) = (60, y :: M) := by simp only [putE]; rw [if_pos hh]
                simp only [hE] at hq1 ⊢
                refine GG0 ?_
                refine ⟨q1, y, M, F, ck, pu + 1, hq1, hr2, hF, by omega, by omega, ?_⟩
                (refine anew [0, 1, 2, 9, 10, 11, 12, 7] ?_ (by decide) ?_ ?_ ?_ rfl ?_ ?_ <;> simp [-List.map_map, embAt, nm, rn_rw, rn_ro, rn_map, rn_iter, rn_dead, renL, Val.ren, wfAll, wn_rw, wn_ro, wn_map, wn_iter, wn_dead, wfL, Val.wf, Env.get, initEnv, tH, fH, fHb, TS.cells, encF_ren, encF_wf, fv_ren, fv_wf, fobj_ren, fobj_wf, gV_ren, gV_wf, gOr_ren, gOr_wf, gOh_ren, gOh_wf, ops_ren, ops_wf, esF_ren, esF_wf, hg1, go2, gV_new])
              · by_cases hf : (y :: M).length = 40
                · have hE : putE (x.2.2.1, x.2.2.2) x.2.1 40 (y :: M) = (4, y :: M) := by simp only [putE]; rw [if_neg hh, if_pos hf]
                  simp only [hE] at hq1 ⊢
                  refine GG0 ?_
                  refine ⟨q1, y, M, F, ck, pu + 1, hq1, hr2, hF, by omega, by omega, ?_⟩
                  (refine anew [0, 1, 2, 9, 10, 11, 12, 7] ?_ (by decide) ?_ ?_ ?_ rfl ?_ ?_ <;> simp [-List.map_map, embAt, nm, rn_rw, rn_ro, rn_map, rn_iter, rn_dead, renL, Val.ren, wfAll, wn_rw, wn_ro, wn_map, wn_iter, wn_dead, wfL, Val.wf, Env.get, initEnv, tH, fH, fHb, TS.cells, encF_ren, encF_wf, fv_ren, fv_wf, fobj_ren, fobj_wf, gV_ren, gV_wf, gOr_ren, gOr_wf, gOh_ren, gOh_wf, ops_ren, ops_wf, esF_ren, esF_wf, hg1, go2, gV_new])
                · have hE : putE (x.2.2.1, x.2.2.2) x.2.1 40 (y :: M) = (0, ins (x.2.2.1, x.2.2.2, x.2.1) (y :: M)) := by simp only [putE]; rw [if_neg hh, if_neg hf]
                  have hnk : ∀ z ∈ y :: M, ekey z ≠ (x.2.2.1, x.2.2.2) := fun z hz e => hh (has_iff.2 ⟨z, hz, e⟩)
                  have hil : (ins (x.2.2.1, x.2.2.2, x.2.1) (y :: M)).length = M.length + 2 := by rw [(ins_perm _ _).length_eq]; simp
                  have hF1 := hF.more (v := x.2.1) hnk
                  simp only [hE] at hq1 ⊢
                  generalize ins (x.2.2.1, x.2.2.2, x.2.1) (y :: M) = M1 at hq1 hil hF1
                  obtain ⟨y1, M1, rfl⟩ : ∃ a b, M1 = a :: b := by
                    cases M1 with
                    | nil => simp at hil
                    | cons a b => exact ⟨a, b, rfl⟩
                  simp only [List.length_cons] at hil
                  refine GG0 ?_
                  refine Nb (mupF (id := 7) (ck := ck) (F := F) (a := x.2.2.1) (b := x.2.2.2) (v := x.2.1) (by (simp only [go_sem, reduceIte, Nat.reduceEqDiff]; (try with_reducible exact rfl))) (by (simp only [go_sem, reduceIte, Nat.reduceEqDiff]; (try with_reducible exact rfl))) (by (simp only [go_sem, reduceIte, Nat.reduceEqDiff]; (try with_reducible exact rfl))) rfl (fun z hz => hnk _ (hF.mem z hz))) ?_
                  simp only [List.set_cons_succ, List.set_cons_zero]
                  refine GG0 ?_
                  refine ⟨q1, y1, M1, _, ck + 1, pu + 1, hq1, hr2, hF1, by omega, by omega, ?_⟩
                  (refine anew [0, 1, 2, 9, 10, 11, 12, 7] ?_ (by decide) ?_ ?_ ?_ rfl ?_ ?_ <;> simp [-List.map_map, embAt, nm, rn_rw, rn_ro, rn_map, rn_iter, rn_dead, renL, Val.ren, wfAll, wn_rw, wn_ro, wn_map, wn_iter, wn_dead, wfL, Val.wf, Env.get, initEnv, tH, fH, fHb, TS.cells, encF_ren, encF_wf, fv_ren, fv_wf, fobj_ren, fobj_wf, gV_ren, gV_wf, gOr_ren, gOr_wf, gOh_ren, gOh_wf, ops_ren, ops_wf, esF_ren, esF_wf, hg1, go2, gV_new])
            · have hb : ¬ (((pu : Nat) : Int) < ((k : Nat) : Int)) := by omega
              (have g0 := decide_f hb; refine GG1 ?_; clear g0)
              refine ⟨q, y, M, F, ck, pu, hq, hr, hF, hpu, by omega, ?_⟩
              (refine anew [0, 1, 2, 3, 4, 5, 6, 7] ?_ (by decide) ?_ ?_ ?_ rfl ?_ ?_ <;> simp [-List.map_map, embAt, nm, rn_rw, rn_ro, rn_map, rn_iter, rn_dead, renL, Val.ren, wfAll, wn_rw, wn_ro, wn_map, wn_iter, wn_dead, wfL, Val.wf, Env.get, initEnv, tH, fH, fHb, TS.cells, encF_ren, encF_wf, fv_ren, fv_wf, fobj_ren, fobj_wf, gV_ren, gV_wf, gOr_ren, gOr_wf, gOh_ren, gOh_wf, ops_ren, ops_wf, esF_ren, esF_wf, hg, go2])
          · clear hq hr hF hsum hg hpu hs hz q M F ck pu y
            rintro ρ H ⟨q, y, M, F, ck, pu, hq, hr, hF, hpu, hsum, ha⟩
            refine ei_anewS ha ?_
            clear ha
            have hg := hq.gc
            have hs := hq.sorted
            simp only [fHb, TS.cells, List.cons_append, List.nil_append]
            refine GG0 ?_
            (first | ((with_reducible first | apply RunP.call | apply Run.call | apply Run.call0); iterate 2 (· (simp only [go_sem, reduceIte, Nat.reduceEqDiff]; (try with_reducible exact rfl)))) | ((with_reducible first | apply Run.callY | apply RunP.callY); iterate 3 (· (simp only [go_sem, reduceIte, Nat.reduceEqDiff]; (try with_reducible exact rfl)))))
            refine sound_use (fhead_c q _ hq) [2, 3, 4, 5, 6] rfl (by decide) ?_ ?_ ?_ ?_ ?_; iterate 4 (· simp [-List.map_map, embAt, nm, rn_rw, rn_ro, rn_map, rn_iter, rn_dead, renL, Val.ren, wfAll, wn_rw, wn_ro, wn_map, wn_iter, wn_dead, wfL, Val.wf, Env.get, initEnv, tH, fH, fHb, TS.cells, encF_ren, encF_wf, fv_ren, fv_wf, fobj_ren, fobj_wf, gV_ren, gV_wf, gOr_ren, gOr_wf, gOh_ren, gOh_wf, ops_ren, ops_wf, esF_ren, esF_wf, hg])
            rintro v C' ⟨rfl, rfl⟩
            simp only [merge, place, after, nm, MG, Val.ren, renL, rn_rw, rn_ro, rn_map, rn_iter, rn_dead, reduceIte, Nat.reduceLT, Nat.reduceAdd, Nat.reduceSub, Nat.lt_irrefl, Nat.zero_lt_one, Nat.zero_lt_succ, tH, fH, fHb, TS.cells, encF_ren, encF_wf, fv_ren, fv_wf, fobj_ren, fobj_wf, gV_ren, gV_wf, gOr_ren, gOr_wf, gOh_ren, gOh_wf, ops_ren, ops_wf, esF_ren, esF_wf, hg, headV]
            refine GG0 ?_
            (first | ((with_reducible first | apply RunP.call | apply Run.call | apply Run.call0); iterate 2 (· (simp only [go_sem, reduceIte, Nat.reduceEqDiff]; (try with_reducible exact rfl)))) | ((with_reducible first | apply Run.callY | apply RunP.callY); iterate 3 (· (simp only [go_sem, reduceIte, Nat.reduceEqDiff]; (try with_reducible exact rfl)))))
            refine sound_use (fpop_c q _ hq) [2, 3, 4, 5, 6] rfl (by decide) ?_ ?_ ?_ ?_ ?_; iterate 4 (· simp [-List.map_map, embAt, nm, rn_rw, rn_ro, rn_map, rn_iter, rn_dead, renL, Val.ren, wfAll, wn_rw, wn_ro, wn_map, wn_iter, wn_dead, wfL, Val.wf, Env.get, initEnv, tH, fH, fHb, TS.cells, encF_ren, encF_wf, fv_ren, fv_wf, fobj_ren, fobj_wf, gV_ren, gV_wf, gOr_ren, gOr_wf, gOh_ren, gOh_wf, ops_ren, ops_wf, esF_ren, esF_wf, hg])
            rintro v C' ⟨rfl, q1, hq1, hr1, rfl⟩
            have hg1 := hq1.gc
            have hr2 := hr1.trans hr
            simp only [merge, place, after, nm, MG, Val.ren, renL, rn_rw, rn_ro, rn_map, rn_iter, rn_dead, reduceIte, Nat.reduceLT, Nat.reduceAdd, Nat.reduceSub, Nat.lt_irrefl, Nat.zero_lt_one, Nat.zero_lt_succ, tH, fH, fHb, TS.cells, encF_ren, encF_wf, fv_ren, fv_wf, fobj_ren, fobj_wf, gV_ren, gV_wf, gOr_ren, gOr_wf, gOh_ren, gOh_wf, ops_ren, ops_wf, esF_ren, esF_wf, hg1, headV]
            simp only [List.tail_cons] at hq1
            refine GG0 ?_
            refine ei_loop (OI3 l0 l1 o2 q1 y F ck pu st) (n := left_ F []) ?_ ?_
            · refine ⟨[], rfl, ?_⟩
              (refine anew [0, 1, 2, 9, 10, 11, 12, 7, 8, 14] ?_ (by decide) ?_ ?_ ?_ rfl ?_ ?_ <;> simp [-List.map_map, embAt, nm, rn_rw, rn_ro, rn_map, rn_iter, rn_dead, renL, Val.ren, wfAll, wn_rw, wn_ro, wn_map, wn_iter, wn_dead, wfL, Val.wf, Env.get, initEnv, tH, fH, fHb, TS.cells, encF_ren, encF_wf, fv_ren, fv_wf, fobj_ren, fobj_wf, gV_ren, gV_wf, gOr_ren, gOr_wf, gOh_ren, gOh_wf, ops_ren, ops_wf, esF_ren, esF_wf, hg1, go2])
            · rintro n' ρ H ⟨seen, rfl, ha⟩
              refine ei_anewS ha ?_
              clear ha
              simp only [fHb, TS.cells, List.cons_append, List.nil_append]
              refine GG0 ?_
              refine Run.any (nxtF (id := 9) (F := F) (ck := ck) rfl rfl rfl hF.lt) ?_
              intro w hw
              obtain ⟨z, hz', rfl⟩ := List.mem_map.1 hw
              rcases candsF hz' with rfl | ⟨z, hz1, hz2, rfl⟩
              · simp only [nxtOut]
                refine GG0 ?_
                rcases F_split (a := y.1) (b := y.2.1) F with hno | ⟨F1, x, F2, rfl, hx1, hx2⟩
                · refine Aa (lkpF_no (a := y.1) (b := y.2.1) _ (by (simp only [go_sem, reduceIte, Nat.reduceEqDiff]; (try with_reducible exact rfl))) (by (simp only [go_sem, reduceIte, Nat.reduceEqDiff]; (try with_reducible exact rfl))) rfl hno) ?_
                  refine GG0 ?_
                  refine Nb (mdlF_no (a := y.1) (b := y.2.1) (by (simp only [go_sem, reduceIte, Nat.reduceEqDiff]; (try with_reducible exact rfl))) (by (simp only [go_sem, reduceIte, Nat.reduceEqDiff]; (try with_reducible exact rfl))) rfl hno) ?_
                  simp only [List.set_cons_succ, List.set_cons_zero]
                  refine GG0 ?_
                  refine ⟨200 - (st + 1), by omega, q1, M, F, ck, pu, st + 1, hq1, hr2, hF.none hno, hpu, by omega, by omega, rfl, ?_⟩
                  (refine anew [0, 1, 2, 3, 4, 5, 6, 7] ?_ (by decide) ?_ ?_ ?_ rfl ?_ ?_ <;> simp [-List.map_map, embAt, nm, rn_rw, rn_ro, rn_map, rn_iter, rn_dead, renL, Val.ren, wfAll, wn_rw, wn_ro, wn_map, wn_iter, wn_dead, wfL, Val.wf, Env.get, initEnv, tH, fH, fHb, TS.cells, encF_ren, encF_wf, fv_ren, fv_wf, fobj_ren, fobj_wf, gV_ren, gV_wf, gOr_ren, gOr_wf, gOh_ren, gOh_wf, ops_ren, ops_wf, esF_ren, esF_wf, hg1, go2])
                · have hxe : x.2 = y := by
                    rcases List.mem_cons.1 (hF.mem x (by simp)) with e | hm
                    · exact e
                    · have := (List.pairwise_cons.1 hs).1 _ hm
                      rw [hx1] at this
                      exact absurd this (klt_irrefl _)
                  have hx3 : x.2.2.2 = y.2.2 := by rw [hxe]
                  refine Aa (lkpF_yes (a := y.1) (b := y.2.1) (F1 := F1) (F2 := F2) (y := x) _ (by (simp only [go_sem, reduceIte, Nat.reduceEqDiff]; (try with_reducible exact rfl))) (by (simp only [go_sem, reduceIte, Nat.reduceEqDiff]; (try with_reducible exact rfl))) rfl hx1 hx2) ?_
                  rw [hx3]
                  refine GG0 ?_
                  refine Nb (mdlF_yes (a := y.1) (b := y.2.1) (F1 := F1) (F2 := F2) (y := x) (by (simp only [go_sem, reduceIte, Nat.reduceEqDiff]; (try with_reducible exact rfl))) (by (simp only [go_sem, reduceIte, Nat.reduceEqDiff]; (try with_reducible exact rfl))) rfl hx1 hx2) ?_
                  simp only [List.set_cons_succ, List.set_cons_zero]
                  refine GG0 ?_
                  refine ⟨200 - (st + 1), by omega, q1, M, F1 ++ F2, ck, pu, st + 1, hq1, hr2, hF.less hx1, hpu, by omega, by omega, rfl, ?_⟩
                  (refine anew [0, 1, 2, 3, 4, 5, 6, 7] ?_ (by decide) ?_ ?_ ?_ rfl ?_ ?_ <;> simp [-List.map_map, embAt, nm, rn_rw, rn_ro, rn_map, rn_iter, rn_dead, renL, Val.ren, wfAll, wn_rw, wn_ro, wn_map, wn_iter, wn_dead, wfL, Val.wf, Env.get, initEnv, tH, fH, fHb, TS.cells, encF_ren, encF_wf, fv_ren, fv_wf, fobj_ren, fobj_wf, gV_ren, gV_wf, gOr_ren, gOr_wf, gOh_ren, gOh_wf, ops_ren, ops_wf, esF_ren, esF_wf, hg1, go2])
              · simp only [nxtOut, List.set_cons_succ, List.set_cons_zero]
                refine GG0 ?_
                obtain ⟨x, hx, hent⟩ := entF0 hz1
                refine Aa (entF1 (id := 9) (y := x) (by (simp only [go_sem, reduceIte, Nat.reduceEqDiff]; (try with_reducible exact rfl))) rfl rfl hent) ?_
                have hna : ¬ klt (x.2.1, x.2.2.1) (y.1, y.2.1) := by
                  rcases List.mem_cons.1 (hF.mem x hx) with e | hm
                  · rw [e]; exact klt_irrefl _
                  · exact klt_asymm ((List.pairwise_cons.1 hs).1 _ hm)
                refine GG0 ?_
                (first | ((with_reducible first | apply RunP.call | apply Run.call | apply Run.call0); iterate 2 (· (simp only [go_sem, reduceIte, Nat.reduceEqDiff]; (try with_reducible exact rfl)))) | ((with_reducible first | apply Run.callY | apply RunP.callY); iterate 3 (· (simp only [go_sem, reduceIte, Nat.reduceEqDiff]; (try with_reducible exact rfl)))))
                refine (ahead_ok _ _ _ _ _).mono ?_
                rintro v H' ⟨rfl, rfl⟩
                (have g0 := decide_f hna; refine GG1 ?_; clear g0)
                refine ⟨_, left_lt hz1 hz2, _, rfl, ?_⟩
                (refine anew [0, 1, 2, 3, 4, 5, 6, 7, 8, 9] ?_ (by decide) ?_ ?_ ?_ rfl ?_ ?_ <;> simp [-List.map_map, embAt, nm, rn_rw, rn_ro, rn_map, rn_iter, rn_dead, renL, Val.ren, wfAll, wn_rw, wn_ro, wn_map, wn_iter, wn_dead, wfL, Val.wf, Env.get, initEnv, tH, fH, fHb, TS.cells, encF_ren, encF_wf, fv_ren, fv_wf, fobj_ren, fobj_wf, gV_ren, gV_wf, gOr_ren, gOr_wf, gOh_ren, gOh_wf, ops_ren, ops_wf, esF_ren, esF_wf, hg1, go2])
    · obtain ⟨y, hy, hd⟩ : ∃ y, M[i]? = some y ∧ M.drop i = y :: M.drop (i + 1) := by
        have hlt : i < M.length := by omega
        exact ⟨M[i], List.getElem?_eq_getElem hlt, List.drop_eq_getElem_cons hlt⟩
      rw [hd] at htw
      have hz : (((i : Nat) : Int) < ((M.length : Nat) : Int)) := by omega
      rcases hoa with rfl | rfl
      · exact absurd (noa rfl) (by omega)
      simp only [gV_new, gO_new]
      have hgh : (hs M)[i]? = some (.i .u64 y.2.2) := by simp [hs, hy]
      (have g0 := decide_t hz; have g1 := hgh; refine GG2 ?_; clear g0 g1)
      (first | ((with_reducible first | apply RunP.call | apply Run.call | apply Run.call0); iterate 2 (· (simp only [go_sem, reduceIte, Nat.reduceEqDiff]; (try with_reducible exact rfl)))) | ((with_reducible first | apply Run.callY | apply RunP.callY); iterate 3 (· (simp only [go_sem, reduceIte, Nat.reduceEqDiff]; (try with_reducible exact rfl)))))
      refine sound_use (fpop_c tw _ htw) [8, 9, 10, 11, 12] rfl (by decide) ?_ ?_ ?_ ?_ ?_; iterate 4 (· simp [-List.map_map, embAt, nm, rn_rw, rn_ro, rn_map, rn_iter, rn_dead, renL, Val.ren, wfAll, wn_rw, wn_ro, wn_map, wn_iter, wn_dead, wfL, Val.wf, Env.get, initEnv, tH, fH, fHb, TS.cells, encF_ren, encF_wf, fv_ren, fv_wf, fobj_ren, fobj_wf, gV_ren, gV_wf, gOr_ren, gOr_wf, gOh_ren, gOh_wf, ops_ren, ops_wf, esF_ren, esF_wf, hgt])
      rintro v C' ⟨rfl, t1, ht1, _, rfl⟩
      have hg1 := ht1.gc
      simp only [merge, place, after, nm, MG, Val.ren, renL, rn_rw, rn_ro, rn_map, rn_iter, rn_dead, reduceIte, Nat.reduceLT, Nat.reduceAdd, Nat.reduceSub, Nat.lt_irrefl, Nat.zero_lt_one, Nat.zero_lt_succ, tH, fH, fHb, TS.cells, encF_ren, encF_wf, fv_ren, fv_wf, fobj_ren, fobj_wf, gV_ren, gV_wf, gOr_ren, gOr_wf, gOh_ren, gOh_wf, ops_ren, ops_wf, esF_ren, esF_wf, hg1, headV]
      simp only [List.tail_cons] at ht1
      by_cases h0 : i = 0
      · subst h0
        have hi0 : ¬ ((0 : Int) > 0) := by omega
        (have g0 := decide_f hi0; refine GG1 ?_; clear g0)
        refine ⟨M.length - (0 + 1), by omega, 0 + 1, t1, y.1, y.2.1, by omega, rfl, ht1, fun _ => ⟨y, hy, rfl⟩, ?_⟩
        simp only [gV_new, gO_new]
        (refine anew [0, 1, 2, 3, 4, 5, 6, 7, 8, 14, 15, 16, 17, 13] ?_ (by decide) ?_ ?_ ?_ rfl ?_ ?_ <;> simp [-List.map_map, embAt, nm, rn_rw, rn_ro, rn_map, rn_iter, rn_dead, renL, Val.ren, wfAll, wn_rw, wn_ro, wn_map, wn_iter, wn_dead, wfL, Val.wf, Env.get, initEnv, tH, fH, fHb, TS.cells, encF_ren, encF_wf, fv_ren, fv_wf, fobj_ren, fobj_wf, gV_ren, gV_wf, gOr_ren, gOr_wf, gOh_ren, gOh_wf, ops_ren, ops_wf, esF_ren, esF_wf, hg, hg1, go2, hs_ren, hs_wf])
      · have hi0 : (((i : Nat) : Int) > 0) := by omega
        obtain ⟨z, hz1, hz2⟩ := hlast (by omega)
        have hkl : klt (a, b) (y.1, y.2.1) := by
          rw [← hz2]
          have := hq.sorted
          obtain ⟨hl1, e1⟩ := List.getElem?_eq_some_iff.1 hz1
          obtain ⟨hl2, e2⟩ := List.getElem?_eq_some_iff.1 hy
          have := List.pairwise_iff_getElem.1 this (i - 1) i hl1 hl2 (by omega)
          rw [e1, e2] at this
          exact this
        (have g0 := decide_t hi0; refine GG1 ?_; clear g0)
        (first | ((with_reducible first | apply RunP.call | apply Run.call | apply Run.call0); iterate 2 (· (simp only [go_sem, reduceIte, Nat.reduceEqDiff]; (try with_reducible exact rfl)))) | ((with_reducible first | apply Run.callY | apply RunP.callY); iterate 3 (· (simp only [go_sem, reduceIte, Nat.reduceEqDiff]; (try with_reducible exact rfl)))))
        refine (ahead_ok _ _ _ _ _).mono ?_
        rintro v H' ⟨rfl, rfl⟩
        (have g0 := decide_t hkl; refine GG1 ?_; clear g0)
        refine ⟨M.length - (i + 1), by omega, i + 1, t1, y.1, y.2.1, by omega, rfl, ht1, fun _ => ⟨y, hy, rfl⟩, ?_⟩
        simp only [gV_new, gO_new]
        (refine anew [0, 1, 2, 3, 4, 5, 6, 7, 8, 14, 15, 16, 17, 13] ?_ (by decide) ?_ ?_ ?_ rfl ?_ ?_ <;> simp [-List.map_map, embAt, nm, rn_rw, rn_ro, rn_map, rn_iter, rn_dead, renL, Val.ren, wfAll, wn_rw, wn_ro, wn_map, wn_iter, wn_dead, wfL, Val.wf, Env.get, initEnv, tH, fH, fHb, TS.cells, encF_ren, encF_wf, fv_ren, fv_wf, fobj_ren, fobj_wf, gV_ren, gV_wf, gOr_ren, gOr_wf, gOh_ren, gOh_wf, ops_ren, ops_wf, esF_ren, esF_wf, hg, hg1, go2, hs_ren, hs_wf])
end Go.Proofs.Ytjahkgfihdngkaa.IR
