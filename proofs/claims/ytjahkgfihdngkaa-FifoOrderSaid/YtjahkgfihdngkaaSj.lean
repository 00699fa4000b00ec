/- This text of a proof shows: slices.SortFunc of a short list of items with different keys; slices.Clone. -/
import Derived.Test.YtjahkgfihdngkaaGg
import Derived.Test.YtjahkgfihdngkaaSh
set_option linter.unusedVariables false
set_option linter.unusedSimpArgs false
set_option linter.constructorNameAsVariable false
namespace Go.Proofs.Ytjahkgfihdngkaa.IR
open Go Go.Proofs.Ytjahkgfihdngkaa.Ev Go.Proofs.Ytjahkgfihdngkaa.Ev.Rb Go.Proofs.Ytjahkgfihdngkaa.Ev.So
set_option linter.unusedSimpArgs false
set_option linter.unusedVariables false
set_option maxHeartbeats 4000000
attribute [local go_sem] skipV nc0 nc1 nc2 nc3 bne_self_eq_false decide_true decide_false IOp.step Opd.ev Env.get initEnv Val.cells? Val.one List.all_cons List.all_nil Bool.and_true Bool.and_self Bool.true_and bin ints eqv Val.kindNo lenNo_s lenNo_nils lenNo_sl lenNo_nilm lenNo_m lenOf_s lenOf_nils lenOf_sl lenOf_nilm unary partsOf padTo List.foldl_cons List.foldl_nil wr_nil wr_step wr_zero List.set_cons_zero List.set_cons_succ List.map_cons List.map_nil z1 z2 Nat.succ_ne_zero List.length_cons List.length_nil List.cons_append List.nil_append List.append_nil List.getElem?_cons_zero List.getElem?_cons_succ List.getElem?_nil Option.map_some Option.map_none Nat.zero_add Nat.add_zero List.drop_zero List.drop_succ_cons List.take_succ_cons List.take_zero List.take_nil and_self and_true true_and Nat.le_refl Bool.not_true Bool.not_false Option.getD_some window Val.slen bnd resV resL RV.val Bool.false_eq_true BEq.rfl Bool.true_beq Bool.false_beq beq_true beq_false mk_one ite_true ite_false eqc ceqs ceq NOp.step isK eq_self
attribute [local go_sem] nat_toNat
theorem L2_le : ∀ k n, L2 k n ≤ k
  | 0, _ => Nat.le_refl _
  | k + 1, n => by simp only [L2]; split; omega; have := L2_le k (n / 2); omega
theorem sort_c (f : Row) (n : Nat) (hn : n < 50) (ht : Tot ltE f n) :
    SoundM Try.prog 1 36 [(.sl 0 0 n 3), (.fn (.func 37) [] [])] [.rw (rC f n)] (Sw f n 0 n fun v g => v = .tup [] ∧ Srt ltE g 0 n) := by
  refine sound_told (sound_func Try.func36 c36 rfl (by simp) ?_)
  simp only [e36]
  refine GG0 ?_
  (first | ((with_reducible first | apply RunP.call | apply Run.call | apply Run.call0); iterate 2 (· (simp only [go_sem, reduceIte, Nat.reduceEqDiff]; (try with_reducible exact rfl)))) | ((with_reducible first | apply Run.callY | apply RunP.callY); iterate 3 (· (simp only [go_sem, reduceIte, Nat.reduceEqDiff]; (try with_reducible exact rfl)))))
  refine (len_ok (n := n) (by omega) _).mono ?_
  rintro v H' ⟨rfl, rfl⟩
  (first | refine And.intro rfl ?_ | refine And.intro trivial ?_ | skip)
  refine GG0 ?_
  have hk := L2_le 8 n
  (first | ((with_reducible first | apply RunP.call | apply Run.call | apply Run.call0); iterate 2 (· (simp only [go_sem, reduceIte, Nat.reduceEqDiff]; (try with_reducible exact rfl)))) | ((with_reducible first | apply Run.callY | apply RunP.callY); iterate 3 (· (simp only [go_sem, reduceIte, Nat.reduceEqDiff]; (try with_reducible exact rfl)))))
  refine sound_use (pdq_c n hn (n + 1) f 0 n (L2 8 n) (by omega) (by omega) (Nat.le_refl _) (by omega) ht (fun h => by omega)) [0] rfl (by decide) ?_ ?_ ?_ ?_ ?_; iterate 4 (· simp [-List.map_map, embAt, nm, rn_rw, rn_ro, rn_map, rn_iter, rn_dead, renL, Val.ren, wfAll, wn_rw, wn_ro, wn_map, wn_iter, wn_dead, wfL, Val.wf, Env.get, initEnv, Val.ren, rC_ren, rC_wf])
  rintro v C' ⟨g, hs, ⟨rfl, hso⟩, rfl⟩
  simp only [merge, place, after, nm, MG, Val.ren, renL, rn_rw, rn_ro, rn_map, rn_iter, rn_dead, reduceIte, Nat.reduceLT, Nat.reduceAdd, Nat.reduceSub, Nat.lt_irrefl, Nat.zero_lt_one, Nat.zero_lt_succ, rC_ren]
  refine GG0 ?_
  refine told [0] [.rw (rC g n)] (.tup []) ?_ (by decide) ?_ ?_ ?_ rfl ?_ ?_ ?_; iterate 6 (· simp [-List.map_map, embAt, nm, rn_rw, rn_ro, rn_map, rn_iter, rn_dead, renL, Val.ren, wfAll, wn_rw, wn_ro, wn_map, wn_iter, wn_dead, wfL, Val.wf, Env.get, initEnv, rC_ren, rC_wf])
  exact ⟨g, hs, ⟨rfl, hso⟩, rfl⟩
theorem rC_list (g : Row) : ∀ n, rC g n = rowC ((List.range n).map g)
  | 0 => rfl
  | n + 1 => by
    show rC g n ++ itC (g n) = _
    rw [rC_list g n, List.range_succ, List.map_append]
    exact rowC_snoc _ _
def nth (l : List (Int × Int × Int)) : Row := fun i => l.getD i (0, 0, 0)
theorem nth_list (l : List (Int × Int × Int)) : (List.range l.length).map (nth l) = l := by
  apply List.ext_getElem
  · simp
  · intro i h1 h2
    simp [nth, h2]
theorem nth_tot {l : List (Int × Int × Int)} (h : (l.map ekey).Nodup) : Tot ltE (nth l) l.length := by
  intro i j hi hj hij
  have e : ∀ k, k < l.length → nth l k = l[k]! := fun k hk => by simp [nth, hk]
  by_cases c : klt (ekey (nth l i)) (ekey (nth l j))
  · exact .inl c
  · by_cases c' : klt (ekey (nth l j)) (ekey (nth l i))
    · exact .inr c'
    · have he := klt_eq c c'
      exfalso
      have h1 : nth l i = l[i] := by simp [nth, hi]
      have h2 : nth l j = l[j] := by simp [nth, hj]
      rw [h1, h2] at he
      have key := List.pairwise_iff_getElem.1 h
      rcases Nat.lt_or_gt_of_ne hij with c | c
      · exact absurd (by rw [List.getElem_map, List.getElem_map]; exact he) (key i j (by simpa using hi) (by simpa using hj) c)
      · exact absurd (by rw [List.getElem_map, List.getElem_map]; exact he.symm) (key j i (by simpa using hj) (by simpa using hi) c)
theorem sorted_row {g : Row} {n : Nat} (h : Srt ltE g 0 n) : Sorted ((List.range n).map g) := by
  refine List.pairwise_map.2 (List.pairwise_lt_range.imp_of_mem ?_)
  intro a b _ hb hab
  exact h a b (Nat.zero_le _) hab (List.mem_range.1 hb)
def ft5 : FT := ftOf [(51, e51, k51), (62, e62, k62), (63, e63, k63), (36, e36, k36), (50, e50, k50), (54, e54, k54)]
theorem ft5_ok : FtOk Try.prog ft5 := ftOf_ok (by
  intro x hx
  simp only [List.mem_cons, List.not_mem_nil, or_false] at hx
  rcases hx with rfl | rfl | rfl | rfl | rfl | rfl
  · exact ⟨_, _, Try.func51, c51⟩
  · exact ⟨_, _, Try.func62, c62⟩
  · exact ⟨_, _, Try.func63, c63⟩
  · exact ⟨_, _, Try.func36, c36⟩
  · exact ⟨_, _, Try.func50, c50⟩
  · exact ⟨_, _, Try.func54, c54⟩)
theorem nil_run : (call ft5 ext 60 20 50 [.nils, .i .i64 0, .i .i64 0, .i .i64 0, (.fn (.func 37) [] [])] []).map (·.1) = some (.tup []) := by kernel_rfl
theorem sortnil_c : SoundM Try.prog 1 36 [.nils, (.fn (.func 37) [] [])] [.dead] (fun v H => v = .tup [] ∧ H = [.dead]) := by
  refine sound_told (sound_func Try.func36 c36 rfl (by simp) ?_)
  simp only [e36]
  refine GG0 ?_
  (first | ((with_reducible first | apply RunP.call | apply Run.call | apply Run.call0); iterate 2 (· (simp only [go_sem, reduceIte, Nat.reduceEqDiff]; (try with_reducible exact rfl)))) | ((with_reducible first | apply Run.callY | apply RunP.callY); iterate 3 (· (simp only [go_sem, reduceIte, Nat.reduceEqDiff]; (try with_reducible exact rfl)))))
  refine (len_ok (n := 0) (by omega) _).mono ?_
  rintro v H' ⟨rfl, rfl⟩
  (first | refine And.intro rfl ?_ | refine And.intro trivial ?_ | skip)
  refine GG0 ?_
  (first | ((with_reducible first | apply RunP.call | apply Run.call | apply Run.call0); iterate 2 (· (simp only [go_sem, reduceIte, Nat.reduceEqDiff]; (try with_reducible exact rfl)))) | ((with_reducible first | apply Run.callY | apply RunP.callY); iterate 3 (· (simp only [go_sem, reduceIte, Nat.reduceEqDiff]; (try with_reducible exact rfl)))))
  refine (sound_run ft5_ok ext_ok rfl rfl nil_run _).mono ?_
  rintro v H' ⟨rfl, rfl⟩
  (first | refine And.intro rfl ?_ | refine And.intro trivial ?_ | skip)
  refine GG0 ?_
  refine told [0] [.dead] (.tup []) ?_ (by decide) ?_ ?_ ?_ rfl ?_ ?_ ?_; iterate 6 (· simp [-List.map_map, embAt, nm, rn_rw, rn_ro, rn_map, rn_iter, rn_dead, renL, Val.ren, wfAll, wn_rw, wn_ro, wn_map, wn_iter, wn_dead, wfL, Val.wf, Env.get, initEnv, rC_ren, rC_wf])
  exact ⟨rfl, rfl⟩
def SortedAs (l : List (Int × Int × Int)) (o : GO) (v : Val) (H : Heap) : Prop := ∃ l' : List (Int × Int × Int), l'.Perm l ∧ Sorted l' ∧ v = .tup [] ∧ H = [gO o (rowC l')]
theorem sortl_c (l : List (Int × Int × Int)) (o : GO) (ho : o = none ∨ o = gNew) (hno : o = none → l.length = 0) (hn : l.length < 50) (hd : (l.map ekey).Nodup) :
    SoundM Try.prog 1 36 [gV o 0 l.length 3, (.fn (.func 37) [] [])] [gO o (rowC l)] (SortedAs l o) := by
  rcases ho with rfl | rfl
  · have hl : l = [] := List.length_eq_zero_iff.1 (hno rfl)
    subst hl
    refine sortnil_c.mono ?_
    rintro v H' ⟨rfl, rfl⟩
    exact ⟨[], .refl _, .nil, rfl, rfl⟩
  · have e : rC (nth l) l.length = rowC l := by rw [rC_list, nth_list]
    have := sort_c (nth l) l.length hn (nth_tot hd)
    rw [e] at this
    rw [gV_new, gO_new]
    refine this.mono ?_
    rintro v H' ⟨g, hs, ⟨rfl, hso⟩, rfl⟩
    have hp := hs.perm (Nat.le_refl _)
    rw [nth_list] at hp
    exact ⟨_, hp, sorted_row hso, rfl, by rw [gO_new, rC_list]⟩
theorem gCopy {e : Opd → Val} {H : Heap} {x y : Opd} {j k c : List Val} {i0 id n sz bytes : Nat} (hx : e x = .sl i0 0 0 sz) (h0 : H[i0]? = some (.rw [])) (hy : e y = .sl id j.length n sz) (hH : H[id]? = some (.rw (j ++ (c ++ k))))
    (hc : c.length = n * sz) (hb : n * bytes ≤ 140737488355328) : (IOp.app sz bytes x y).step e H = some (.sl H.length 0 n sz, H.set i0 .dead ++ [.rw c]) := by
  have w1 : window H (.sl i0 0 0 sz) sz = some [] := by simp [window, h0]
  have w2 : window H (.sl id j.length n sz) sz = some c := by
    simp only [window, if_true, hH]
    rw [if_pos (by simp [hc]), List.drop_left, ← hc, List.take_left]
  simp only [IOp.step, hx, hy, w1, w2, Val.slen, h0]
  rw [if_pos (by rw [Nat.zero_add]; exact hb)]
  simp
def Cloned (l : List (Int × Int × Int)) (o : GO) (v : Val) (H : Heap) : Prop := ∃ o' : GO, (o' = none ∨ o' = gNew) ∧ (o' = none → l.length = 0) ∧ v = gV o' 1 l.length 3 ∧ H = [gO o (rowC l), gO o' (rowC l)]
theorem clone_c (l : List (Int × Int × Int)) (o : GO) (go : gC o) (hno : o = none → l.length = 0) (hn : l.length ≤ 100000) :
    SoundM Try.prog 1 34 [gV o 0 l.length 3] [gO o (rowC l)] (Cloned l o) := by
  refine sound_told (sound_func Try.func34 c34 rfl (by simp) ?_)
  simp only [e34]
  rcases o with _ | ⟨j, k⟩
  · have hl : l = [] := List.length_eq_zero_iff.1 (hno rfl)
    subst hl
    simp only [gV_none, gO_none]
    refine ei_pad ?_
    refine GG0 ?_
    refine told [0, 1] [.dead, .dead] .nils ?_ (by decide) ?_ ?_ ?_ rfl ?_ ?_ ?_; iterate 6 (· simp [-List.map_map, embAt, nm, rn_rw, rn_ro, rn_map, rn_iter, rn_dead, renL, Val.ren, wfAll, wn_rw, wn_ro, wn_map, wn_iter, wn_dead, wfL, Val.wf, Env.get, initEnv, rowC_ren, rowC_wf])
    exact ⟨none, .inl rfl, fun _ => rfl, rfl, rfl⟩
  · simp only [gV_some, gO_some]
    refine GG0 ?_
    refine Aa ((gCopy (n := l.length) (c := rowC l) (j := j) (k := k) (i0 := 1) (id := 0) (by (simp only [go_sem, reduceIte, Nat.reduceEqDiff]; (try with_reducible exact rfl)); all_goals rfl) rfl (by (simp only [go_sem, reduceIte, Nat.reduceEqDiff]; (try with_reducible exact rfl)); all_goals rfl) rfl (rowC_length l) (by omega)).trans (by simp only [List.set_cons_succ, List.set_cons_zero, List.cons_append, List.nil_append, List.length_cons, List.length_nil, Nat.reduceAdd]; exact rfl)) ?_
    refine GG0 ?_
    refine told [0, 2] [gO (some (j, k)) (rowC l), gO gNew (rowC l)] (gV gNew 1 l.length 3) ?_ (by decide) ?_ ?_ ?_ rfl ?_ ?_ ?_; iterate 6 (· simp [-List.map_map, embAt, nm, rn_rw, rn_ro, rn_map, rn_iter, rn_dead, renL, Val.ren, wfAll, wn_rw, wn_ro, wn_map, wn_iter, wn_dead, wfL, Val.wf, Env.get, initEnv, gO_some, gO_new, gV_new, gOr_ren, gOr_wf, rowC_ren, rowC_wf, renL_append, wfL_append, go.1, go.2.1, go.2.2.1, go.2.2.2])
    exact ⟨gNew, .inr rfl, fun e => absurd e gNew_ne, rfl, rfl⟩
end Go.Proofs.Ytjahkgfihdngkaa.IR
