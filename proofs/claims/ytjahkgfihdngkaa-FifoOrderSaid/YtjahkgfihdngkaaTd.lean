/- This text of a proof shows: all nodes of a tree are told in order. -/
import Derived.Test.YtjahkgfihdngkaaGg
import Derived.Test.YtjahkgfihdngkaaTc
set_option linter.unusedVariables false
set_option linter.unusedSimpArgs false
set_option linter.constructorNameAsVariable false
namespace Go.Proofs.Ytjahkgfihdngkaa.IR
open Go Go.Proofs.Ytjahkgfihdngkaa.Ev Go.Proofs.Ytjahkgfihdngkaa.Ev.Rb
set_option linter.unusedSimpArgs false
set_option linter.unusedVariables false
set_option maxHeartbeats 4000000
attribute [local go_sem] skipV nc0 nc1 nc2 nc3 bne_self_eq_false decide_true decide_false IOp.step Opd.ev Env.get initEnv Val.cells? Val.one List.all_cons List.all_nil Bool.and_true Bool.and_self Bool.true_and bin ints eqv Val.kindNo lenNo_s lenNo_nils lenNo_sl lenNo_nilm lenNo_m lenOf_s lenOf_nils lenOf_sl lenOf_nilm unary partsOf padTo List.foldl_cons List.foldl_nil wr_nil wr_step wr_zero List.set_cons_zero List.set_cons_succ List.map_cons List.map_nil z1 z2 Nat.succ_ne_zero List.length_cons List.length_nil List.cons_append List.nil_append List.append_nil List.getElem?_cons_zero List.getElem?_cons_succ List.getElem?_nil Option.map_some Option.map_none Nat.zero_add Nat.add_zero List.drop_zero List.drop_succ_cons List.take_succ_cons List.take_zero List.take_nil and_self and_true true_and Nat.le_refl Bool.not_true Bool.not_false Option.getD_some window Val.slen bnd resV resL RV.val Bool.false_eq_true BEq.rfl Bool.true_beq Bool.false_beq beq_true beq_false mk_one ite_true ite_false eqc ceqs ceq NOp.step isK eq_self
attribute [local go_sem] Nat.mul_one Nat.sub_zero gV_kn gV_no
attribute [local go_sem] nat_toNat encF_length wr_one Nat.mul_one dv_dn dv_0 dv_2 dv_f dv_t dv_not setK_root setUp_root setRed_root
theorem gOn_ren {ι : Nat → Nat} {o : GO} {l : List Nat} (h : gC o) : (gO o (nums l)).ren ι = gO o (nums l) := gO_ren h (nums_ren ι l)
theorem gOn_wf {m : Nat} {o : GO} {l : List Nat} (h : gC o) : (gO o (nums l)).wf m = true := gO_wf h (nums_wf m l)
def OInv (t : TS) (s : Rb) (l : List Nat) (n : Nat) (ρ : Env) (H : Heap) : Prop :=
  ∃ (x : Nat) (todo out : List Nat) (o1 o2 : GO), x < t.len ∧ (∀ y ∈ todo, y < t.len) ∧ orderF n s.f x todo out = some l ∧ gC o1 ∧ gC o2 ∧ (o1 = none → todo.length = 0) ∧ (o2 = none → out.length = 0) ∧ (o2 = none ∨ o2 = gNew) ∧
    AnewS 3 (tH t s ++ [gO o1 (nums todo), gO o2 (nums out)]) [(0, .p 0 0), (3, gV o2 4 out.length 1), (4, gV o1 3 todo.length 1), (5, .i .i64 (x : Nat))] ρ H
/-- What a row of numbers comes as: nil, or new. -/
def Nums (t : TS) (s : Rb) (l : List Nat) (v : Val) (H : Heap) : Prop := ∃ o : GO, (o = none ∨ o = gNew) ∧ (o = none → l.length = 0) ∧ v = gV o 3 l.length 1 ∧ H = tH t s ++ [gO o (nums l)]
theorem order_c (t : TS) (s : Rb) (l : List Nat) (m : Nat) (bd : Bnd s t.len) (hl : l.length ≤ 100000) (hf : orderF m s.f s.root [] [] = some l) :
    SoundM Try.prog 3 48 [.p 0 0] (tH t s) (Nums t s l) := by
  refine sound_told (sound_func Try.func48 c48 rfl (by simp [tH]) ?_)
  simp only [e48, tH, TS.cells]
  refine GG0 ?_
  refine ei_pad (ei_pad ?_)
  refine ei_loop (OInv t s l) (n := m) ?_ ?_
  · refine ⟨s.root, [], [], none, none, bd.root, by simp, hf, trivial, trivial, fun _ => rfl, fun _ => rfl, .inl rfl, ?_⟩
    simp only [gO_none, gV_none]
    (refine anew [0, 1, 2, 3, 4] ?_ (by decide) ?_ ?_ ?_ rfl ?_ ?_ <;> simp [-List.map_map, embAt, nm, rn_rw, rn_ro, rn_map, rn_iter, rn_dead, renL, Val.ren, wfAll, wn_rw, wn_ro, wn_map, wn_iter, wn_dead, wfL, Val.wf, Env.get, initEnv, tH, TS.cells, encF_ren, encF_wf, fv_ren, fv_wf, fobj_ren, fobj_wf, setUp_root, setK_root, setRed_root, gV_ren, gV_wf, gOn_ren, gOn_wf, gC_new, nums_snoc])
  · rintro n ρ H ⟨x, todo, out, o1, o2, hx, htd, hf, g1, g2, n1, n2, hn, ha⟩
    refine ei_anewS ha ?_
    clear ha
    cases n with
    | zero => cases hf
    | succ n =>
    have hlen := order_len hf
    simp only [orderF] at hf
    simp only [tH, TS.cells, List.cons_append, List.nil_append]
    by_cases h0 : x = 0
    · subst h0
      rw [if_neg (by simp)] at hf
      cases htl : todo.getLast? with
      | none =>
        rw [htl] at hf
        cases hf
        have ht0 : todo = [] := by simpa using htl
        have hz : ¬ (((todo.length : Nat) : Int) > 0) := by rw [ht0]; simp
        (have g0 := gV_len n1; have g1 := decide_f hz; refine GG2 ?_; clear g0 g1)
        refine told [0, 1, 2, 4] (tH t s ++ [gO o2 (nums l)]) (gV o2 3 l.length 1) ?_ (by decide) ?_ ?_ ?_ rfl ?_ ?_ ?_; iterate 6 (· simp [-List.map_map, embAt, nm, rn_rw, rn_ro, rn_map, rn_iter, rn_dead, renL, Val.ren, wfAll, wn_rw, wn_ro, wn_map, wn_iter, wn_dead, wfL, Val.wf, Env.get, initEnv, tH, TS.cells, encF_ren, encF_wf, fv_ren, fv_wf, fobj_ren, fobj_wf, setUp_root, setK_root, setRed_root, gV_ren, gV_wf, gOn_ren, gOn_wf, gC_new, nums_snoc, g2])
        exact ⟨o2, hn, n2, rfl, rfl⟩
      | some y =>
        rw [htl] at hf
        obtain ⟨td, rfl⟩ : ∃ td, todo = td ++ [y] := ⟨todo.dropLast, by
          obtain ⟨hne, e⟩ := List.getLast?_eq_some_iff.1 htl
          rw [e]; simp⟩
        simp only [List.dropLast_concat] at hf
        have hy := htd y (by simp)
        simp only [List.length_append, List.length_singleton] at hlen n1
        rcases o1 with _ | ⟨j, k⟩
        · exact absurd (n1 rfl) (by omega)
        have hp : (0 : Int) < ((td.length + 1 : Nat) : Int) := by omega
        have hat : (j ++ (nums (td ++ [y]) ++ k))[j.length + td.length]? = some (.i .i64 (y : Nat)) := by
          rw [List.getElem?_append_right (by omega), show j.length + td.length - j.length = td.length by omega, nums_app]
          rw [List.getElem?_append_left (by simp [nums]), List.getElem?_append_right (by simp [nums])]
          simp [nums]
        have e1 : ((((td.length + 1 : Nat) : Int) - 1)).toNat = td.length := by omega
        simp only [gV_some, gO_some, List.length_append, List.length_singleton]
        have hc : (nums out).length = out.length * 1 := by simp [nums]
        have hol : out.length ≤ 100000 := by omega
        (have g0 := decide_t hp; have g1 := e1; have g2 := hat; refine GG3 ?_; clear g0 g1 g2)
        (refine Aa ((gApp (sz := 1) (o := o2) (c := nums out) (new := [.i .i64 (y : Nat)]) (id := 4) (j := 5) (n := out.length) (by (simp only [go_sem, reduceIte, Nat.reduceEqDiff]; (try with_reducible exact rfl)); all_goals rfl) (by first | rfl | (rw [gO_new]; rfl)) (by first | assumption | simp [nums]) (by first | assumption | exact fun e => absurd e gNew_ne | simp_all) (by (simp only [go_sem, reduceIte, Nat.reduceEqDiff]; (try with_reducible exact rfl))) rfl rfl (by omega)).trans (by simp only [List.set_cons_succ, List.set_cons_zero, List.cons_append, List.nil_append, List.length_cons, List.length_nil, Nat.reduceAdd]; exact rfl)) ?_)
        (have g0 := fun qf => get_k1 (f := qf) hy; refine GG1 ?_; clear g0)
        refine ⟨n, by omega, _, td, out ++ [y], some (j, (.i .i64 (y : Nat)) :: k), gNew, bd.k1 y hy, fun z hz => htd z (by simp [hz]), hf, ?_, gC_new, fun e => (by cases e), fun e => absurd e gNew_ne, .inr rfl, ?_⟩
        · obtain ⟨q1, q2, q3, q4⟩ := g1
          exact ⟨q1, q2, fun ι => by simp [renL, Val.ren, q3], fun m => by simp [wfL, Val.wf, q4]⟩
        · have gc1 : gC (some (j, (.i .i64 (y : Nat)) :: k)) := by
            obtain ⟨q1, q2, q3, q4⟩ := g1
            exact ⟨q1, q2, fun ι => by simp [renL, Val.ren, q3], fun m => by simp [wfL, Val.wf, q4]⟩
          have eo : AObj.rw (j ++ (nums (td ++ [y]) ++ k)) = gO (some (j, (.i .i64 (y : Nat)) :: k)) (nums td) := by simp [gO, nums]
          have ev : Val.sl 3 j.length td.length 1 = gV (some (j, (.i .i64 (y : Nat)) :: k)) 3 td.length 1 := rfl
          rw [eo, ev]
          (refine anew [0, 1, 2, 3, 6] ?_ (by decide) ?_ ?_ ?_ rfl ?_ ?_ <;> simp [-List.map_map, embAt, nm, rn_rw, rn_ro, rn_map, rn_iter, rn_dead, renL, Val.ren, wfAll, wn_rw, wn_ro, wn_map, wn_iter, wn_dead, wfL, Val.wf, Env.get, initEnv, tH, TS.cells, encF_ren, encF_wf, fv_ren, fv_wf, fobj_ren, fobj_wf, setUp_root, setK_root, setRed_root, gV_ren, gV_wf, gOn_ren, gOn_wf, gC_new, nums_snoc, gc1])
    · have hb : (((x : Nat) : Int) != 0) = true := by simpa using h0
      rw [if_pos h0] at hf
      rw [if_neg h0] at hlen
      have hc : (nums todo).length = todo.length * 1 := by simp [nums]
      (have g0 := hb; refine GG1 ?_; clear g0)
      (refine Aa ((gApp (sz := 1) (o := o1) (c := nums todo) (new := [.i .i64 (x : Nat)]) (id := 3) (j := 5) (n := todo.length) (by (simp only [go_sem, reduceIte, Nat.reduceEqDiff]; (try with_reducible exact rfl)); all_goals rfl) (by first | rfl | (rw [gO_new]; rfl)) (by first | assumption | simp [nums]) (by first | assumption | exact fun e => absurd e gNew_ne | simp_all) (by (simp only [go_sem, reduceIte, Nat.reduceEqDiff]; (try with_reducible exact rfl))) rfl rfl (by omega)).trans (by simp only [List.set_cons_succ, List.set_cons_zero, List.cons_append, List.nil_append, List.length_cons, List.length_nil, Nat.reduceAdd]; exact rfl)) ?_)
      (have g0 := fun qf => get_k0 (f := qf) hx; refine GG1 ?_; clear g0)
      refine ⟨n, by omega, _, todo ++ [x], out, gNew, o2, bd.k0 x hx, ?_, hf, gC_new, g2, fun e => absurd e gNew_ne, n2, hn, ?_⟩
      · intro y hy
        rcases List.mem_append.1 hy with hy | hy
        · exact htd y hy
        · rw [List.mem_singleton] at hy; subst hy; exact hx
      · (refine anew [0, 1, 2, 6, 4] ?_ (by decide) ?_ ?_ ?_ rfl ?_ ?_ <;> simp [-List.map_map, embAt, nm, rn_rw, rn_ro, rn_map, rn_iter, rn_dead, renL, Val.ren, wfAll, wn_rw, wn_ro, wn_map, wn_iter, wn_dead, wfL, Val.wf, Env.get, initEnv, tH, TS.cells, encF_ren, encF_wf, fv_ren, fv_wf, fobj_ren, fobj_wf, setUp_root, setK_root, setRed_root, gV_ren, gV_wf, gOn_ren, gOn_wf, gC_new, nums_snoc, g2])
def entC (x : Int × Int × Int) : List Val := [.i .u64 x.1, .i .u64 x.2.1, .i .i64 x.2.2]
def ents (l : List (Int × Int × Int)) : List Val := l.flatMap entC
theorem ents_ren (ι : Nat → Nat) (l : List (Int × Int × Int)) : renL ι (ents l) = ents l := renL_flat ι l fun _ => rfl
theorem ents_wf (m : Nat) (l : List (Int × Int × Int)) : wfL m (ents l) = true := wfL_flat m (fun _ => rfl) l
theorem ents_length (l : List (Int × Int × Int)) : (ents l).length = l.length * 3 := by
  induction l with
  | nil => rfl
  | cons x l ih => simp [ents, entC] at ih ⊢; omega
theorem ents_snoc (l : List (Int × Int × Int)) (x : Int × Int × Int) : ents l ++ entC x = ents (l ++ [x]) := by simp [ents]
theorem gOe_ren {ι : Nat → Nat} {o : GO} {l : List (Int × Int × Int)} (h : gC o) : (gO o (ents l)).ren ι = gO o (ents l) := gO_ren h (ents_ren ι l)
theorem gOe_wf {m : Nat} {o : GO} {l : List (Int × Int × Int)} (h : gC o) : (gO o (ents l)).wf m = true := gO_wf h (ents_wf m l)
/-- What all entries come as. -/
def Ents (t : TS) (s : Rb) (l : List (Int × Int × Int)) (v : Val) (H : Heap) : Prop := ∃ o : GO, (o = none ∨ o = gNew) ∧ (o = none → l.length = 0) ∧ v = gV o 3 l.length 3 ∧ H = tH t s ++ [gO o (ents l)]
def AInv (t : TS) (s : Rb) (l : List Nat) (oo : GO) (n : Nat) (ρ : Env) (H : Heap) : Prop :=
  ∃ (i : Nat) (o : GO), i ≤ l.length ∧ n = l.length - i ∧ (o = none ∨ o = gNew) ∧ (o = none → i = 0) ∧
    AnewS 3 (tH t s ++ [gO oo (nums l), gO o (ents ((l.take i).map fun j => (s.f j).e))]) [(0, .p 0 0), (3, gV o 4 i 3), (11, gV oo 3 l.length 1), (12, .i .i64 (l.length : Nat)), (13, .i .i64 (i : Nat))] ρ H
theorem gC_of {o : GO} (h : o = none ∨ o = gNew) : gC o := by rcases h with rfl | rfl; trivial; exact gC_new
theorem all_c0 (t : TS) (s : Rb) (l : List Nat) (m : Nat) (bd : Bnd s t.len) (hl : l.length ≤ 100000) (hin : ∀ i ∈ l, i ≠ 0 ∧ i < t.len) (hf : orderF m s.f s.root [] [] = some l) :
    SoundM Try.prog 3 35 [.p 0 0] (tH t s) (Ents t s (l.map fun i => (s.f i).e)) := by
  refine sound_told (sound_func Try.func35 c35 rfl (by simp [tH]) ?_)
  simp only [e35, tH, TS.cells]
  refine GG0 ?_
  (first | ((with_reducible first | apply RunP.call | apply Run.call | apply Run.call0); iterate 2 (· (simp only [go_sem, reduceIte, Nat.reduceEqDiff]; (try with_reducible exact rfl)))) | ((with_reducible first | apply Run.callY | apply RunP.callY); iterate 3 (· (simp only [go_sem, reduceIte, Nat.reduceEqDiff]; (try with_reducible exact rfl)))))
  refine sound_use (tno_c t s) [0, 1, 2] rfl (by decide) ?_ ?_ ?_ ?_ ?_; iterate 4 (· simp [-List.map_map, embAt, nm, rn_rw, rn_ro, rn_map, rn_iter, rn_dead, renL, Val.ren, wfAll, wn_rw, wn_ro, wn_map, wn_iter, wn_dead, wfL, Val.wf, Env.get, initEnv, tH, TS.cells, encF_ren, encF_wf, fv_ren, fv_wf, fobj_ren, fobj_wf, setUp_root, setK_root, setRed_root, gV_ren, gV_wf, gOn_ren, gOn_wf, gC_new, nums_snoc])
  rintro v C' ⟨rfl, rfl⟩
  simp only [merge, place, after, nm, MG, Val.ren, renL, rn_rw, rn_ro, rn_map, rn_iter, rn_dead, reduceIte, Nat.reduceLT, Nat.reduceAdd, Nat.reduceSub, Nat.lt_irrefl, Nat.zero_lt_one, Nat.zero_lt_succ, tH, TS.cells, encF_ren, encF_wf, fv_ren, fv_wf, fobj_ren, fobj_wf, setUp_root, setK_root, setRed_root, gV_ren, gV_wf, gOn_ren, gOn_wf, gC_new, nums_snoc]
  refine GG0 ?_
  (first | ((with_reducible first | apply RunP.call | apply Run.call | apply Run.call0); iterate 2 (· (simp only [go_sem, reduceIte, Nat.reduceEqDiff]; (try with_reducible exact rfl)))) | ((with_reducible first | apply Run.callY | apply RunP.callY); iterate 3 (· (simp only [go_sem, reduceIte, Nat.reduceEqDiff]; (try with_reducible exact rfl)))))
  refine sound_use (order_c t s l m bd hl hf) [0, 1, 2] rfl (by decide) ?_ ?_ ?_ ?_ ?_; iterate 4 (· simp [-List.map_map, embAt, nm, rn_rw, rn_ro, rn_map, rn_iter, rn_dead, renL, Val.ren, wfAll, wn_rw, wn_ro, wn_map, wn_iter, wn_dead, wfL, Val.wf, Env.get, initEnv, tH, TS.cells, encF_ren, encF_wf, fv_ren, fv_wf, fobj_ren, fobj_wf, setUp_root, setK_root, setRed_root, gV_ren, gV_wf, gOn_ren, gOn_wf, gC_new, nums_snoc])
  rintro v C' ⟨oo, hoo, noo, rfl, rfl⟩
  have goo := gC_of hoo
  simp only [merge, place, after, nm, MG, Val.ren, renL, rn_rw, rn_ro, rn_map, rn_iter, rn_dead, reduceIte, Nat.reduceLT, Nat.reduceAdd, Nat.reduceSub, Nat.lt_irrefl, Nat.zero_lt_one, Nat.zero_lt_succ, tH, TS.cells, encF_ren, encF_wf, fv_ren, fv_wf, fobj_ren, fobj_wf, setUp_root, setK_root, setRed_root, gV_ren, gV_wf, gOn_ren, gOn_wf, gC_new, nums_snoc, goo]
  (have g0 := gV_len noo; refine GG1 ?_; clear g0)
  refine ei_pad ?_
  simp only [List.cons_append, List.nil_append]
  refine ei_loop (AInv t s l oo) (n := l.length) ?_ ?_
  · refine ⟨0, none, by omega, by omega, .inl rfl, fun _ => rfl, ?_⟩
    simp only [gO_none, gV_none]
    (refine anew [0, 1, 2, 3, 4] ?_ (by decide) ?_ ?_ ?_ rfl ?_ ?_ <;> simp [-List.map_map, embAt, nm, rn_rw, rn_ro, rn_map, rn_iter, rn_dead, renL, Val.ren, wfAll, wn_rw, wn_ro, wn_map, wn_iter, wn_dead, wfL, Val.wf, Env.get, initEnv, tH, TS.cells, encF_ren, encF_wf, fv_ren, fv_wf, fobj_ren, fobj_wf, setUp_root, setK_root, setRed_root, gV_ren, gV_wf, gOn_ren, gOn_wf, gC_new, nums_snoc, goo])
  · rintro n ρ H ⟨i, o, hi, rfl, ho, no, ha⟩
    refine ei_anewS ha ?_
    clear ha
    have go := gC_of ho
    simp only [tH, TS.cells, List.cons_append, List.nil_append]
    by_cases h0 : i = l.length
    · subst h0
      have hz : ¬ (((l.length : Nat) : Int) < ((l.length : Nat) : Int)) := by omega
      (have g0 := decide_f hz; refine GG1 ?_; clear g0)
      refine told [0, 1, 2, 4] (tH t s ++ [gO o (ents (l.map fun i => (s.f i).e))]) (gV o 3 l.length 3) ?_ (by decide) ?_ ?_ ?_ rfl ?_ ?_ ?_; iterate 6 (· simp [-List.map_map, embAt, nm, rn_rw, rn_ro, rn_map, rn_iter, rn_dead, renL, Val.ren, wfAll, wn_rw, wn_ro, wn_map, wn_iter, wn_dead, wfL, Val.wf, Env.get, initEnv, tH, TS.cells, encF_ren, encF_wf, fv_ren, fv_wf, fobj_ren, fobj_wf, setUp_root, setK_root, setRed_root, gV_ren, gV_wf, gOn_ren, gOn_wf, gC_new, nums_snoc, go, gOe_ren, gOe_wf])
      refine ⟨o, ho, by simpa using no, by simp, rfl⟩
    · have hlt : i < l.length := by omega
      have hz : (((i : Nat) : Int) < ((l.length : Nat) : Int)) := by omega
      obtain ⟨y, hy⟩ : ∃ y, l[i]? = some y := ⟨l[i], List.getElem?_eq_getElem hlt⟩
      obtain ⟨y0, yl⟩ := hin y (List.mem_of_getElem? hy)
      have hent := entry_c t s y yl
      rw [if_neg y0] at hent
      have hnn : (nums l)[i]? = some (.i .i64 (y : Nat)) := by simp [nums, hy]
      rcases hoo with rfl | rfl
      · exact absurd (noo rfl) (by omega)
      simp only [gV_new, gO_new]
      have hc : (ents ((l.take i).map fun j => (s.f j).e)).length = i * 3 := by rw [ents_length]; simp; omega
      (have g0 := decide_t hz; have g1 := hnn; refine GG2 ?_; clear g0 g1)
      (first | ((with_reducible first | apply RunP.call | apply Run.call | apply Run.call0); iterate 2 (· (simp only [go_sem, reduceIte, Nat.reduceEqDiff]; (try with_reducible exact rfl)))) | ((with_reducible first | apply Run.callY | apply RunP.callY); iterate 3 (· (simp only [go_sem, reduceIte, Nat.reduceEqDiff]; (try with_reducible exact rfl)))))
      refine sound_use (hent) [0, 1, 2] rfl (by decide) ?_ ?_ ?_ ?_ ?_; iterate 4 (· simp [-List.map_map, embAt, nm, rn_rw, rn_ro, rn_map, rn_iter, rn_dead, renL, Val.ren, wfAll, wn_rw, wn_ro, wn_map, wn_iter, wn_dead, wfL, Val.wf, Env.get, initEnv, tH, TS.cells, encF_ren, encF_wf, fv_ren, fv_wf, fobj_ren, fobj_wf, setUp_root, setK_root, setRed_root, gV_ren, gV_wf, gOn_ren, gOn_wf, gC_new, nums_snoc, ent])
      rintro v C' ⟨rfl, rfl⟩
      simp only [merge, place, after, nm, MG, Val.ren, renL, rn_rw, rn_ro, rn_map, rn_iter, rn_dead, reduceIte, Nat.reduceLT, Nat.reduceAdd, Nat.reduceSub, Nat.lt_irrefl, Nat.zero_lt_one, Nat.zero_lt_succ, tH, TS.cells, encF_ren, encF_wf, fv_ren, fv_wf, fobj_ren, fobj_wf, setUp_root, setK_root, setRed_root, gV_ren, gV_wf, gOn_ren, gOn_wf, gC_new, nums_snoc, ent]
      refine GG0 ?_
      (refine Aa ((gApp (sz := 3) (o := o) (c := ents ((l.take i).map fun j => (s.f j).e)) (new := entC (s.f y).e) (id := 4) (j := 6) (n := i) (by (simp only [go_sem, reduceIte, Nat.reduceEqDiff]; (try with_reducible exact rfl)); all_goals rfl) (by first | rfl | (rw [gO_new]; rfl)) (by first | assumption | simp [nums]) (by first | assumption | exact fun e => absurd e gNew_ne | simp_all) (by (simp only [go_sem, reduceIte, Nat.reduceEqDiff]; (try with_reducible exact rfl))) rfl rfl (by omega)).trans (by simp only [List.set_cons_succ, List.set_cons_zero, List.cons_append, List.nil_append, List.length_cons, List.length_nil, Nat.reduceAdd]; exact rfl)) ?_)
      refine GG0 ?_
      refine ⟨l.length - (i + 1), by omega, i + 1, gNew, by omega, rfl, .inr rfl, fun e => absurd e gNew_ne, ?_⟩
      have et : (l.take (i + 1)).map (fun j => (s.f j).e) = (l.take i).map (fun j => (s.f j).e) ++ [(s.f y).e] := by
        rw [List.take_add_one, hy]; simp
      rw [et]
      have e0 : AObj.rw (nums l) = gO gNew (nums l) := (gO_new _).symm
      rw [e0, show Val.sl 3 0 l.length 1 = gV gNew 3 l.length 1 from rfl]
      (refine anew [0, 1, 2, 3, 7] ?_ (by decide) ?_ ?_ ?_ rfl ?_ ?_ <;> simp [-List.map_map, embAt, nm, rn_rw, rn_ro, rn_map, rn_iter, rn_dead, renL, Val.ren, wfAll, wn_rw, wn_ro, wn_map, wn_iter, wn_dead, wfL, Val.wf, Env.get, initEnv, tH, TS.cells, encF_ren, encF_wf, fv_ren, fv_wf, fobj_ren, fobj_wf, setUp_root, setK_root, setRed_root, gV_ren, gV_wf, gOn_ren, gOn_wf, gC_new, nums_snoc, ents_snoc, gOe_ren, gOe_wf])
end Go.Proofs.Ytjahkgfihdngkaa.IR
