/- This text of a proof shows: what a bitmap's Next, Round, Len and New come to; a bitmap's contracts, told with five objects whatever its size; and how many marks there are. -/
import Derived.Test.YtmdilnelogechaaDoorGg
import Derived.Test.YtmdilnelogechaaDoorUf
import Derived.Test.YtmdilnelogechaaDoorEvF
set_option linter.unusedVariables false
set_option linter.unusedSimpArgs false
set_option linter.constructorNameAsVariable false
namespace Go.Proofs.YtmdilnelogechaaDoor.IR
open Go Go.Proofs.YtmdilnelogechaaDoor.Ev
set_option linter.unusedSimpArgs false
set_option linter.unusedVariables false
set_option maxHeartbeats 4000000
attribute [local go_sem] skipV nc0 nc1 nc2 nc3 bne_self_eq_false decide_true decide_false IOp.step Opd.ev Env.get initEnv Val.cells? Val.one List.all_cons List.all_nil Bool.and_true Bool.and_self Bool.true_and bin_shr6 bin_rem bin_shrw bin_shl1 bin_shl6 bin_and1 bin_or bin_andNot bitN_eq bin_quo bin_mul bin_add bin_sub bin_lss bin_leq bin_gtr bin_geq bin_eql bin_neq eqv Val.kindNo lenNo_s lenNo_nils lenNo_sl lenNo_nilm lenNo_m lenOf_s lenOf_nils lenOf_sl lenOf_nilm unary mxs mx2 partsOf padTo List.foldl_cons List.foldl_nil wr_nil wr_step wr_zero List.set_cons_zero List.set_cons_succ List.map_cons List.map_nil z1 z2 Nat.succ_ne_zero List.length_cons List.length_nil List.cons_append List.nil_append List.append_nil List.getElem?_cons_zero List.getElem?_cons_succ List.getElem?_nil Option.map_some Option.map_none Nat.zero_add Nat.add_zero List.drop_zero List.drop_succ_cons List.take_succ_cons List.take_zero List.take_nil and_self and_true true_and Nat.le_refl Bool.not_true Bool.not_false Option.getD_some window Val.slen bnd resV resL RV.val Bool.false_eq_true BEq.rfl Bool.true_beq Bool.false_beq beq_true beq_false mk_one ite_true ite_false eqc ceqs ceq
attribute [local go_sem] Int.toNat_natCast
attribute [local simp] Wd_ren Wd_wf
def IsNext (p : Nat → Bool) (j : Nat) : Option Nat → Prop
  | some i => Least p j i
  | none => ∀ k, j ≤ k → p k = false
def ans : Option Nat → Val
  | some i => .tup [.i .i64 i, .b true]
  | none => .tup [.i .i64 0, .b false]
theorem IsNext.uniq {p : Nat → Bool} {j : Nat} : ∀ {a c : Option Nat}, IsNext p j a → IsNext p j c → a = c
  | none, none, _, _ => rfl
  | none, some i, h, g => by have := h i g.ge; rw [g.is] at this; exact Bool.noConfusion this
  | some i, none, g, h => by have := h i g.ge; rw [g.is] at this; exact Bool.noConfusion this
  | some i, some k, g, h => by rw [Least.uniq g h]
theorem next_c (b : BB) (hb : b.ok) (i : Int) : SoundM Tryd.prog b.m 55 [.p 0 0, .i .i64 i] b.heap (fun v H' => H' = b.heap ∧ ∃ o, IsNext b.p i.toNat o ∧ v = ans o) := by
  have : SoundM Tryd.prog b.m 55 [.p 0 0, .i .i64 i] b.heap (NextPost b i) := by
    rcases b.shape with ⟨h, h'⟩ | ⟨h, h'⟩ | ⟨h, h'⟩
    · exact next1_c b hb h i
    · exact next2_c b hb h h' i
    · exact next3_c b hb h h' i
  refine this.mono ?_
  rintro v H' ⟨rfl, ⟨k, h1, rfl⟩ | ⟨h1, rfl⟩⟩
  · exact ⟨rfl, some k, h1, rfl⟩
  · exact ⟨rfl, none, h1, rfl⟩
def IsRound (p : Nat → Bool) (j : Nat) (o : Option Nat) : Prop := (∃ i, IsNext p j (some i) ∧ o = some i) ∨ (IsNext p j none ∧ IsNext p 0 o)
theorem IsRound.uniq {p : Nat → Bool} {j : Nat} {a c : Option Nat} (h : IsRound p j a) (g : IsRound p j c) : a = c := by
  rcases h with ⟨i, h1, rfl⟩ | ⟨h1, h2⟩ <;> rcases g with ⟨k, g1, rfl⟩ | ⟨g1, g2⟩
  · exact h1.uniq g1
  · exact absurd (h1.uniq g1) (by simp)
  · exact absurd (h1.uniq g1) (by simp)
  · exact h2.uniq g2
theorem round_c (b : BB) (hb : b.ok) (i : Int) : SoundM Tryd.prog b.m 39 [.p 0 0, .i .i64 i] b.heap (fun v H' => H' = b.heap ∧ ∃ o, IsRound b.p i.toNat o ∧ v = ans o) := by
  rcases b.shape with ⟨h, h'⟩ | ⟨h, h'⟩ | ⟨h, h'⟩
  all_goals
    have hn := next_c b hb i
    have hz := next_c b hb 0
    simp only [BB.m, BB.heap, h, h', if_true, if_false] at hn hz
    conv => arg 2; simp only [BB.m, h, h', if_true, if_false]
    refine sound_told (sound_func Tryd.func39 c39 rfl (by simp [BB.heap, h, h']) ?_)
    simp only [e39, s39]
    conv => arg 6; simp only [BB.heap, h, h', if_true, if_false]
    refine GG0 ?_
    (first | ((with_reducible apply RunP.call); (· (simp only [go_sem, reduceIte, Nat.reduceEqDiff]; (try with_reducible exact rfl))); (· (simp only [go_sem, reduceIte, Nat.reduceEqDiff]; (try with_reducible exact rfl)))) | ((with_reducible apply Run.call); (· (simp only [go_sem, reduceIte, Nat.reduceEqDiff]; (try with_reducible exact rfl))); (· (simp only [go_sem, reduceIte, Nat.reduceEqDiff]; (try with_reducible exact rfl)))) | ((with_reducible apply Run.callY); (· (simp only [go_sem, reduceIte, Nat.reduceEqDiff]; (try with_reducible exact rfl))); (· (simp only [go_sem, reduceIte, Nat.reduceEqDiff]; (try with_reducible exact rfl))); (· (simp only [go_sem, reduceIte, Nat.reduceEqDiff]; (try with_reducible exact rfl)))) | ((with_reducible apply RunP.callY); (· (simp only [go_sem, reduceIte, Nat.reduceEqDiff]; (try with_reducible exact rfl))); (· (simp only [go_sem, reduceIte, Nat.reduceEqDiff]; (try with_reducible exact rfl))); (· (simp only [go_sem, reduceIte, Nat.reduceEqDiff]; (try with_reducible exact rfl)))) | ((with_reducible apply Run.call0); (· (simp only [go_sem, reduceIte, Nat.reduceEqDiff]; (try with_reducible exact rfl))); (· (simp only [go_sem, reduceIte, Nat.reduceEqDiff]; (try with_reducible exact rfl)))))
    (first | (have _s : _ ≤ 64 := of_eq_true h; refine sound_use (hn) [0, 1, 2] rfl (by decide) (by simp [-List.map_map, embAt, nm, AObj.ren, renL, Val.ren, nc0]) (by simp [-List.map_map, wfAll, AObj.wf, wfL, Val.wf, nc0]) (by simp [-List.map_map, Val.wf, wfL, nc0]) (by simp [-List.map_map, Val.ren, renL, nm, nc0]) ?_) | (have _s : _ ≤ 4096 := of_eq_true h'; refine sound_use (hn) [0, 1, 2, 3] rfl (by decide) (by simp [-List.map_map, embAt, nm, AObj.ren, renL, Val.ren, nc0]) (by simp [-List.map_map, wfAll, AObj.wf, wfL, Val.wf, nc0]) (by simp [-List.map_map, Val.wf, wfL, nc0]) (by simp [-List.map_map, Val.ren, renL, nm, nc0]) ?_) | (refine sound_use (hn) [0, 1, 2, 3, 4] rfl (by decide) (by simp [-List.map_map, embAt, nm, AObj.ren, renL, Val.ren, nc0]) (by simp [-List.map_map, wfAll, AObj.wf, wfL, Val.wf, nc0]) (by simp [-List.map_map, Val.wf, wfL, nc0]) (by simp [-List.map_map, Val.ren, renL, nm, nc0]) ?_))
    rintro v C' ⟨rfl, o, ho, rfl⟩
    cases o with
    | some k =>
      simp only [ans]
      simp only [merge, place, after, nm, MG, Val.ren, renL, AObj.ren, reduceIte, Nat.reduceLT, Nat.reduceAdd, Nat.reduceSub, Nat.lt_irrefl, Nat.zero_lt_one, Nat.zero_lt_succ, Wd_ren]
      refine GG0 ?_
      (first | (have _s : _ ≤ 64 := of_eq_true h; refine told [0, 1, 2] b.heap (ans (some k)) (by simp [BB.heap, h, h', ans] <;> fail) (by decide) (by simp [-List.map_map, embAt, nm, AObj.ren, renL, Val.ren, BB.heap, h, h', ans]) (by simp [-List.map_map, wfAll, AObj.wf, wfL, Val.wf, BB.heap, h, h', ans]) (by simp [BB.heap, h, h', ans]) rfl (by simp [-List.map_map, Val.wf, wfL, BB.heap, h, h', ans]) (by simp [-List.map_map, Val.ren, renL, nm, BB.heap, h, h', ans]) ?_) | (have _s : _ ≤ 4096 := of_eq_true h'; refine told [0, 1, 2, 3] b.heap (ans (some k)) (by simp [BB.heap, h, h', ans] <;> fail) (by decide) (by simp [-List.map_map, embAt, nm, AObj.ren, renL, Val.ren, BB.heap, h, h', ans]) (by simp [-List.map_map, wfAll, AObj.wf, wfL, Val.wf, BB.heap, h, h', ans]) (by simp [BB.heap, h, h', ans]) rfl (by simp [-List.map_map, Val.wf, wfL, BB.heap, h, h', ans]) (by simp [-List.map_map, Val.ren, renL, nm, BB.heap, h, h', ans]) ?_) | (refine told [0, 1, 2, 3, 4] b.heap (ans (some k)) (by simp [BB.heap, h, h', ans] <;> fail) (by decide) (by simp [-List.map_map, embAt, nm, AObj.ren, renL, Val.ren, BB.heap, h, h', ans]) (by simp [-List.map_map, wfAll, AObj.wf, wfL, Val.wf, BB.heap, h, h', ans]) (by simp [BB.heap, h, h', ans]) rfl (by simp [-List.map_map, Val.wf, wfL, BB.heap, h, h', ans]) (by simp [-List.map_map, Val.ren, renL, nm, BB.heap, h, h', ans]) ?_))
      exact ⟨rfl, some k, .inl ⟨k, ho, rfl⟩, rfl⟩
    | none =>
      simp only [ans]
      simp only [merge, place, after, nm, MG, Val.ren, renL, AObj.ren, reduceIte, Nat.reduceLT, Nat.reduceAdd, Nat.reduceSub, Nat.lt_irrefl, Nat.zero_lt_one, Nat.zero_lt_succ, Wd_ren]
      refine GG0 ?_
      (first | ((with_reducible apply RunP.call); (· (simp only [go_sem, reduceIte, Nat.reduceEqDiff]; (try with_reducible exact rfl))); (· (simp only [go_sem, reduceIte, Nat.reduceEqDiff]; (try with_reducible exact rfl)))) | ((with_reducible apply Run.call); (· (simp only [go_sem, reduceIte, Nat.reduceEqDiff]; (try with_reducible exact rfl))); (· (simp only [go_sem, reduceIte, Nat.reduceEqDiff]; (try with_reducible exact rfl)))) | ((with_reducible apply Run.callY); (· (simp only [go_sem, reduceIte, Nat.reduceEqDiff]; (try with_reducible exact rfl))); (· (simp only [go_sem, reduceIte, Nat.reduceEqDiff]; (try with_reducible exact rfl))); (· (simp only [go_sem, reduceIte, Nat.reduceEqDiff]; (try with_reducible exact rfl)))) | ((with_reducible apply RunP.callY); (· (simp only [go_sem, reduceIte, Nat.reduceEqDiff]; (try with_reducible exact rfl))); (· (simp only [go_sem, reduceIte, Nat.reduceEqDiff]; (try with_reducible exact rfl))); (· (simp only [go_sem, reduceIte, Nat.reduceEqDiff]; (try with_reducible exact rfl)))) | ((with_reducible apply Run.call0); (· (simp only [go_sem, reduceIte, Nat.reduceEqDiff]; (try with_reducible exact rfl))); (· (simp only [go_sem, reduceIte, Nat.reduceEqDiff]; (try with_reducible exact rfl)))))
      (first | (have _s : _ ≤ 64 := of_eq_true h; refine sound_use (hz) [0, 1, 2] rfl (by decide) (by simp [-List.map_map, embAt, nm, AObj.ren, renL, Val.ren, nc0]) (by simp [-List.map_map, wfAll, AObj.wf, wfL, Val.wf, nc0]) (by simp [-List.map_map, Val.wf, wfL, nc0]) (by simp [-List.map_map, Val.ren, renL, nm, nc0]) ?_) | (have _s : _ ≤ 4096 := of_eq_true h'; refine sound_use (hz) [0, 1, 2, 3] rfl (by decide) (by simp [-List.map_map, embAt, nm, AObj.ren, renL, Val.ren, nc0]) (by simp [-List.map_map, wfAll, AObj.wf, wfL, Val.wf, nc0]) (by simp [-List.map_map, Val.wf, wfL, nc0]) (by simp [-List.map_map, Val.ren, renL, nm, nc0]) ?_) | (refine sound_use (hz) [0, 1, 2, 3, 4] rfl (by decide) (by simp [-List.map_map, embAt, nm, AObj.ren, renL, Val.ren, nc0]) (by simp [-List.map_map, wfAll, AObj.wf, wfL, Val.wf, nc0]) (by simp [-List.map_map, Val.wf, wfL, nc0]) (by simp [-List.map_map, Val.ren, renL, nm, nc0]) ?_))
      rintro v C' ⟨rfl, o, ho2, rfl⟩
      cases o with
      | some k =>
        simp only [ans]
        simp only [merge, place, after, nm, MG, Val.ren, renL, AObj.ren, reduceIte, Nat.reduceLT, Nat.reduceAdd, Nat.reduceSub, Nat.lt_irrefl, Nat.zero_lt_one, Nat.zero_lt_succ, Wd_ren]
        refine GG0 ?_
        (first | (have _s : _ ≤ 64 := of_eq_true h; refine told [0, 1, 2] b.heap (ans (some k)) (by simp [BB.heap, h, h', ans] <;> fail) (by decide) (by simp [-List.map_map, embAt, nm, AObj.ren, renL, Val.ren, BB.heap, h, h', ans]) (by simp [-List.map_map, wfAll, AObj.wf, wfL, Val.wf, BB.heap, h, h', ans]) (by simp [BB.heap, h, h', ans]) rfl (by simp [-List.map_map, Val.wf, wfL, BB.heap, h, h', ans]) (by simp [-List.map_map, Val.ren, renL, nm, BB.heap, h, h', ans]) ?_) | (have _s : _ ≤ 4096 := of_eq_true h'; refine told [0, 1, 2, 3] b.heap (ans (some k)) (by simp [BB.heap, h, h', ans] <;> fail) (by decide) (by simp [-List.map_map, embAt, nm, AObj.ren, renL, Val.ren, BB.heap, h, h', ans]) (by simp [-List.map_map, wfAll, AObj.wf, wfL, Val.wf, BB.heap, h, h', ans]) (by simp [BB.heap, h, h', ans]) rfl (by simp [-List.map_map, Val.wf, wfL, BB.heap, h, h', ans]) (by simp [-List.map_map, Val.ren, renL, nm, BB.heap, h, h', ans]) ?_) | (refine told [0, 1, 2, 3, 4] b.heap (ans (some k)) (by simp [BB.heap, h, h', ans] <;> fail) (by decide) (by simp [-List.map_map, embAt, nm, AObj.ren, renL, Val.ren, BB.heap, h, h', ans]) (by simp [-List.map_map, wfAll, AObj.wf, wfL, Val.wf, BB.heap, h, h', ans]) (by simp [BB.heap, h, h', ans]) rfl (by simp [-List.map_map, Val.wf, wfL, BB.heap, h, h', ans]) (by simp [-List.map_map, Val.ren, renL, nm, BB.heap, h, h', ans]) ?_))
        exact ⟨rfl, some k, .inr ⟨ho, ho2⟩, rfl⟩
      | none =>
        simp only [ans]
        simp only [merge, place, after, nm, MG, Val.ren, renL, AObj.ren, reduceIte, Nat.reduceLT, Nat.reduceAdd, Nat.reduceSub, Nat.lt_irrefl, Nat.zero_lt_one, Nat.zero_lt_succ, Wd_ren]
        refine GG0 ?_
        (first | (have _s : _ ≤ 64 := of_eq_true h; refine told [0, 1, 2] b.heap (ans none) (by simp [BB.heap, h, h', ans] <;> fail) (by decide) (by simp [-List.map_map, embAt, nm, AObj.ren, renL, Val.ren, BB.heap, h, h', ans]) (by simp [-List.map_map, wfAll, AObj.wf, wfL, Val.wf, BB.heap, h, h', ans]) (by simp [BB.heap, h, h', ans]) rfl (by simp [-List.map_map, Val.wf, wfL, BB.heap, h, h', ans]) (by simp [-List.map_map, Val.ren, renL, nm, BB.heap, h, h', ans]) ?_) | (have _s : _ ≤ 4096 := of_eq_true h'; refine told [0, 1, 2, 3] b.heap (ans none) (by simp [BB.heap, h, h', ans] <;> fail) (by decide) (by simp [-List.map_map, embAt, nm, AObj.ren, renL, Val.ren, BB.heap, h, h', ans]) (by simp [-List.map_map, wfAll, AObj.wf, wfL, Val.wf, BB.heap, h, h', ans]) (by simp [BB.heap, h, h', ans]) rfl (by simp [-List.map_map, Val.wf, wfL, BB.heap, h, h', ans]) (by simp [-List.map_map, Val.ren, renL, nm, BB.heap, h, h', ans]) ?_) | (refine told [0, 1, 2, 3, 4] b.heap (ans none) (by simp [BB.heap, h, h', ans] <;> fail) (by decide) (by simp [-List.map_map, embAt, nm, AObj.ren, renL, Val.ren, BB.heap, h, h', ans]) (by simp [-List.map_map, wfAll, AObj.wf, wfL, Val.wf, BB.heap, h, h', ans]) (by simp [BB.heap, h, h', ans]) rfl (by simp [-List.map_map, Val.wf, wfL, BB.heap, h, h', ans]) (by simp [-List.map_map, Val.ren, renL, nm, BB.heap, h, h', ans]) ?_))
        exact ⟨rfl, none, .inr ⟨ho, ho2⟩, rfl⟩
def BB.new (n : Nat) : BB := { n := n, p := fun _ => false, k := 0, L := (n + 63) / 64, M := ((n + 63) / 64 + 63) / 64 }
theorem BB.new_ok (n : Nat) (h1 : 1 ≤ n) (h2 : n ≤ 65536) : (BB.new n).ok := ⟨h1, h2, fun _ _ => rfl, rfl, rfl, Int.le_refl 0, by show (0 : Int) ≤ 65536; decide⟩
theorem word_none (j : Nat) : word (fun _ => false) j = 0 := word_zero.2 fun _ _ => rfl
theorem up_none : up (fun _ => false) = fun _ => false := by funext j; unfold up; rw [word_none]; rfl
theorem mk_Wd : ∀ L : Nat, Ev.mk [.i .u64 0] L = Wd (fun _ => false) L := by
  intro L
  unfold Wd
  rw [show (fun j => Val.i .u64 ((word (fun _ => false) j : Nat) : Int)) = fun _ => Val.i .u64 0 by funext j; rw [word_none]; rfl]
  generalize hl : List.range L = l
  have : l.length = L := by rw [← hl, List.length_range]
  rw [List.map_const', this]
  clear hl this l
  induction L with
  | zero => rfl
  | succ L ih => exact congrArg (fun x => Val.i .u64 0 :: x) ih
theorem new_c (n : Nat) (h1 : 1 ≤ n) (h2 : n ≤ 65536) : SoundM Tryd.prog 0 42 [.i .i64 n] [] (fun v H' => v = .tup [.p 0 0, .i .i64 0] ∧ H' = (BB.new n).heap) := by
  have g1 : ¬ (n : Int) < 1 := by omega
  have g2 : ¬ (n : Int) > 65536 := by omega
  refine sound_told (sound_func Tryd.func42 c42 rfl (by simp) ?_)
  simp only [e42, s42]
  (have g0 := decide_f g1; have g1 := decide_f g2; refine GG2 ?_; clear g0 g1)
  refine ei_unroll 4 (unr ?_)
  have h11 : decide ((1 : Int) > 1) = false := rfl
  have hn3 : (n : Int) ≤ 65536 := by omega
  by_cases hq : n ≤ 64
  · have h : (n ≤ 64) = True := eq_true hq
    have h' := True.intro
    have hL1 : ((n : Int) + 64 - 1) / 64 = 1 := by omega
    have hLe : (n + 63) / 64 = 1 := by omega
    have hMe := True.intro
    by_cases h3 : (n : Int) > 1
    · (have g0 := mk_Wd; have g1 := decide_t h3; have g2 := hL1; have g3 := h11; refine GG4 ?_; clear g0 g1 g2 g3)
      repeat (refine unr ?_; (have g0 := mk_Wd; have g1 := hL1; have g2 := h11; refine GG3 ?_; clear g0 g1 g2))
      refine told [0, 3, 1] (BB.new n).heap (.tup [.p 0 0, .i .i64 0]) (by simp [BB.heap, BB.new, h, h', up_none, hLe, hMe, mk_Wd] <;> fail) (by decide) (by simp [-List.map_map, embAt, nm, AObj.ren, renL, Val.ren, BB.heap, BB.new, h, h', up_none, hLe, hMe, mk_Wd]) (by simp [-List.map_map, wfAll, AObj.wf, wfL, Val.wf, BB.heap, BB.new, h, h', up_none, hLe, hMe, mk_Wd]) (by simp [BB.heap, BB.new, h, h', up_none, hLe, hMe, mk_Wd]) rfl (by simp [-List.map_map, Val.wf, wfL, BB.heap, BB.new, h, h', up_none, hLe, hMe, mk_Wd]) (by simp [-List.map_map, Val.ren, renL, nm, BB.heap, BB.new, h, h', up_none, hLe, hMe, mk_Wd]) ?_
      exact ⟨rfl, rfl⟩
    · (have g0 := mk_Wd; have g1 := decide_f h3; have g2 := hL1; have g3 := h11; refine GG4 ?_; clear g0 g1 g2 g3)
      repeat (refine unr ?_; (have g0 := mk_Wd; have g1 := hL1; have g2 := h11; refine GG3 ?_; clear g0 g1 g2))
      refine told [0, 3, 1] (BB.new n).heap (.tup [.p 0 0, .i .i64 0]) (by simp [BB.heap, BB.new, h, h', up_none, hLe, hMe, mk_Wd] <;> fail) (by decide) (by simp [-List.map_map, embAt, nm, AObj.ren, renL, Val.ren, BB.heap, BB.new, h, h', up_none, hLe, hMe, mk_Wd]) (by simp [-List.map_map, wfAll, AObj.wf, wfL, Val.wf, BB.heap, BB.new, h, h', up_none, hLe, hMe, mk_Wd]) (by simp [BB.heap, BB.new, h, h', up_none, hLe, hMe, mk_Wd]) rfl (by simp [-List.map_map, Val.wf, wfL, BB.heap, BB.new, h, h', up_none, hLe, hMe, mk_Wd]) (by simp [-List.map_map, Val.ren, renL, nm, BB.heap, BB.new, h, h', up_none, hLe, hMe, mk_Wd]) ?_
      exact ⟨rfl, rfl⟩
  · have h : (n ≤ 64) = False := eq_false hq
    by_cases hq2 : n ≤ 4096
    · have h' : (n ≤ 4096) = True := eq_true hq2
      obtain ⟨L, hLe⟩ : ∃ L, (n + 63) / 64 = L := ⟨_, rfl⟩
      have hL1 : ((n : Int) + 64 - 1) / 64 = (L : Int) := by omega
      have hLg : decide ((L : Int) > 1) = true := decide_t (by omega)
      have hM1 : ((L : Int) + 64 - 1) / 64 = 1 := by omega
      have hMe := True.intro
      by_cases h3 : (n : Int) > 1
      · (have g0 := mk_Wd; have g1 := decide_t h3; have g2 := hL1; have g3 := h11; have g4 := hLg; have g5 := hM1; refine GG6 ?_; clear g0 g1 g2 g3 g4 g5)
        repeat (refine unr ?_; (have g0 := mk_Wd; have g1 := hL1; have g2 := h11; have g3 := hLg; have g4 := hM1; refine GG5 ?_; clear g0 g1 g2 g3 g4))
        refine told [0, 6, 1, 4] (BB.new n).heap (.tup [.p 0 0, .i .i64 0]) (by simp [BB.heap, BB.new, h, h', up_none, hLe, hMe, mk_Wd] <;> fail) (by decide) (by simp [-List.map_map, embAt, nm, AObj.ren, renL, Val.ren, BB.heap, BB.new, h, h', up_none, hLe, hMe, mk_Wd]) (by simp [-List.map_map, wfAll, AObj.wf, wfL, Val.wf, BB.heap, BB.new, h, h', up_none, hLe, hMe, mk_Wd]) (by simp [BB.heap, BB.new, h, h', up_none, hLe, hMe, mk_Wd]) rfl (by simp [-List.map_map, Val.wf, wfL, BB.heap, BB.new, h, h', up_none, hLe, hMe, mk_Wd]) (by simp [-List.map_map, Val.ren, renL, nm, BB.heap, BB.new, h, h', up_none, hLe, hMe, mk_Wd]) ?_
        exact ⟨rfl, rfl⟩
      · (have g0 := mk_Wd; have g1 := decide_f h3; have g2 := hL1; have g3 := h11; have g4 := hLg; have g5 := hM1; refine GG6 ?_; clear g0 g1 g2 g3 g4 g5)
        repeat (refine unr ?_; (have g0 := mk_Wd; have g1 := hL1; have g2 := h11; have g3 := hLg; have g4 := hM1; refine GG5 ?_; clear g0 g1 g2 g3 g4))
        refine told [0, 6, 1, 4] (BB.new n).heap (.tup [.p 0 0, .i .i64 0]) (by simp [BB.heap, BB.new, h, h', up_none, hLe, hMe, mk_Wd] <;> fail) (by decide) (by simp [-List.map_map, embAt, nm, AObj.ren, renL, Val.ren, BB.heap, BB.new, h, h', up_none, hLe, hMe, mk_Wd]) (by simp [-List.map_map, wfAll, AObj.wf, wfL, Val.wf, BB.heap, BB.new, h, h', up_none, hLe, hMe, mk_Wd]) (by simp [BB.heap, BB.new, h, h', up_none, hLe, hMe, mk_Wd]) rfl (by simp [-List.map_map, Val.wf, wfL, BB.heap, BB.new, h, h', up_none, hLe, hMe, mk_Wd]) (by simp [-List.map_map, Val.ren, renL, nm, BB.heap, BB.new, h, h', up_none, hLe, hMe, mk_Wd]) ?_
        exact ⟨rfl, rfl⟩
    · have h' : (n ≤ 4096) = False := eq_false hq2
      obtain ⟨L, hLe⟩ : ∃ L, (n + 63) / 64 = L := ⟨_, rfl⟩
      have hL1 : ((n : Int) + 64 - 1) / 64 = (L : Int) := by omega
      have hLg : decide ((L : Int) > 1) = true := decide_t (by omega)
      obtain ⟨M, hMe⟩ : ∃ M, (L + 63) / 64 = M := ⟨_, rfl⟩
      have hM1 : ((L : Int) + 64 - 1) / 64 = (M : Int) := by omega
      have hMg : decide ((M : Int) > 1) = true := decide_t (by omega)
      have hN1 : ((M : Int) + 64 - 1) / 64 = 1 := by omega
      by_cases h3 : (n : Int) > 1
      · (have g0 := mk_Wd; have g1 := decide_t h3; have g2 := hL1; have g3 := h11; have g4 := hLg; have g5 := hM1; have g6 := hMg; have g7 := hN1; refine GG8 ?_; clear g0 g1 g2 g3 g4 g5 g6 g7)
        repeat (refine unr ?_; (have g0 := mk_Wd; have g1 := hL1; have g2 := h11; have g3 := hLg; have g4 := hM1; have g5 := hMg; have g6 := hN1; refine GG7 ?_; clear g0 g1 g2 g3 g4 g5 g6))
        refine told [0, 9, 1, 4, 7] (BB.new n).heap (.tup [.p 0 0, .i .i64 0]) (by simp [BB.heap, BB.new, h, h', up_none, hLe, hMe, mk_Wd] <;> fail) (by decide) (by simp [-List.map_map, embAt, nm, AObj.ren, renL, Val.ren, BB.heap, BB.new, h, h', up_none, hLe, hMe, mk_Wd]) (by simp [-List.map_map, wfAll, AObj.wf, wfL, Val.wf, BB.heap, BB.new, h, h', up_none, hLe, hMe, mk_Wd]) (by simp [BB.heap, BB.new, h, h', up_none, hLe, hMe, mk_Wd]) rfl (by simp [-List.map_map, Val.wf, wfL, BB.heap, BB.new, h, h', up_none, hLe, hMe, mk_Wd]) (by simp [-List.map_map, Val.ren, renL, nm, BB.heap, BB.new, h, h', up_none, hLe, hMe, mk_Wd]) ?_
        exact ⟨rfl, rfl⟩
      · (have g0 := mk_Wd; have g1 := decide_f h3; have g2 := hL1; have g3 := h11; have g4 := hLg; have g5 := hM1; have g6 := hMg; have g7 := hN1; refine GG8 ?_; clear g0 g1 g2 g3 g4 g5 g6 g7)
        repeat (refine unr ?_; (have g0 := mk_Wd; have g1 := hL1; have g2 := h11; have g3 := hLg; have g4 := hM1; have g5 := hMg; have g6 := hN1; refine GG7 ?_; clear g0 g1 g2 g3 g4 g5 g6))
        refine told [0, 9, 1, 4, 7] (BB.new n).heap (.tup [.p 0 0, .i .i64 0]) (by simp [BB.heap, BB.new, h, h', up_none, hLe, hMe, mk_Wd] <;> fail) (by decide) (by simp [-List.map_map, embAt, nm, AObj.ren, renL, Val.ren, BB.heap, BB.new, h, h', up_none, hLe, hMe, mk_Wd]) (by simp [-List.map_map, wfAll, AObj.wf, wfL, Val.wf, BB.heap, BB.new, h, h', up_none, hLe, hMe, mk_Wd]) (by simp [BB.heap, BB.new, h, h', up_none, hLe, hMe, mk_Wd]) rfl (by simp [-List.map_map, Val.wf, wfL, BB.heap, BB.new, h, h', up_none, hLe, hMe, mk_Wd]) (by simp [-List.map_map, Val.ren, renL, nm, BB.heap, BB.new, h, h', up_none, hLe, hMe, mk_Wd]) ?_
        exact ⟨rfl, rfl⟩
end Go.Proofs.YtmdilnelogechaaDoor.IR
namespace Go.Proofs.YtmdilnelogechaaDoor.IR
open Go Go.Proofs.YtmdilnelogechaaDoor.Ev
set_option linter.unusedSimpArgs false
set_option linter.unusedVariables false
set_option maxHeartbeats 4000000
attribute [local go_sem] skipV nc0 nc1 nc2 nc3 bne_self_eq_false decide_true decide_false IOp.step Opd.ev Env.get initEnv Val.cells? Val.one List.all_cons List.all_nil Bool.and_true Bool.and_self Bool.true_and bin_shr6 bin_rem bin_shrw bin_shl1 bin_shl6 bin_and1 bin_or bin_andNot bitN_eq bin_quo bin_mul bin_add bin_sub bin_lss bin_leq bin_gtr bin_geq bin_eql bin_neq eqv Val.kindNo lenNo_s lenNo_nils lenNo_sl lenNo_nilm lenNo_m lenOf_s lenOf_nils lenOf_sl lenOf_nilm unary mxs mx2 partsOf padTo List.foldl_cons List.foldl_nil wr_nil wr_step wr_zero List.set_cons_zero List.set_cons_succ List.map_cons List.map_nil z1 z2 Nat.succ_ne_zero List.length_cons List.length_nil List.cons_append List.nil_append List.append_nil List.getElem?_cons_zero List.getElem?_cons_succ List.getElem?_nil Option.map_some Option.map_none Nat.zero_add Nat.add_zero List.drop_zero List.drop_succ_cons List.take_succ_cons List.take_zero List.take_nil and_self and_true true_and Nat.le_refl Bool.not_true Bool.not_false Option.getD_some window Val.slen bnd resV resL RV.val Bool.false_eq_true BEq.rfl Bool.true_beq Bool.false_beq beq_true beq_false mk_one ite_true ite_false eqc ceqs ceq
/-- The marks below a place, rising. -/
def upto (p : Nat → Bool) (a : Nat) : List Int := ((List.range a).filter p).map fun i : Nat => (i : Int)
theorem upto_succ (p : Nat → Bool) (a : Nat) : upto p (a + 1) = if p a = true then upto p a ++ [(a : Int)] else upto p a := by
  unfold upto
  rw [List.range_succ, List.filter_append]
  by_cases h : p a = true
  · rw [if_pos h]; simp [h]
  · rw [if_neg h]; simp [h]
theorem upto_none (p : Nat → Bool) (a : Nat) : ∀ k, (∀ j, a ≤ j → j < a + k → p j = false) → upto p (a + k) = upto p a
  | 0, _ => rfl
  | k + 1, h => by
    rw [← Nat.add_assoc, upto_succ, if_neg (by rw [h (a + k) (by omega) (by omega)]; exact Bool.noConfusion), upto_none p a k fun j h1 h2 => h j h1 (by omega)]
theorem upto_len (p : Nat → Bool) (a : Nat) : (upto p a).length ≤ a := by
  unfold upto
  rw [List.length_map]
  have := List.length_filter_le p (List.range a)
  rwa [List.length_range] at this
def BB.hd (b : BB) (i : Nat) : List Val := [.sl i 0 (if b.n ≤ 64 then 1 else if b.n ≤ 4096 then 2 else 3) 1, .i .i64 b.n, .i .i64 b.k]
def BB.fl (b : BB) (i j k : Nat) : List Val := if b.n ≤ 64 then [.sl i 0 1 1] else if b.n ≤ 4096 then [.sl i 0 b.L 1, .sl j 0 1 1] else [.sl i 0 b.L 1, .sl j 0 b.M 1, .sl k 0 1 1]
def BB.o2 (b : BB) : AObj := .rw (Wd b.p (if b.n ≤ 64 then 1 else b.L))
def BB.o3 (b : BB) : AObj := if b.n ≤ 64 then .dead else .rw (Wd (up b.p) (if b.n ≤ 4096 then 1 else b.M))
def BB.o4 (b : BB) : AObj := if b.n ≤ 64 then .dead else if b.n ≤ 4096 then .dead else .rw (Wd (up (up b.p)) 1)
def BB.pad (b : BB) : Heap := [.rw (b.hd 1), .rw (b.fl 2 3 4), b.o2, b.o3, b.o4]
theorem BB.hd_ren (ι : Nat → Nat) (b : BB) (i : Nat) : renL ι (b.hd i) = b.hd (ι i) := rfl
theorem BB.fl_ren (ι : Nat → Nat) (b : BB) (i j k : Nat) : renL ι (b.fl i j k) = b.fl (ι i) (ι j) (ι k) := by unfold BB.fl; split; rfl; split <;> rfl
theorem BB.o2_ren (ι : Nat → Nat) (b : BB) : b.o2.ren ι = b.o2 := by unfold BB.o2; simp [AObj.ren, Wd_ren]
theorem BB.o3_ren (ι : Nat → Nat) (b : BB) : b.o3.ren ι = b.o3 := by unfold BB.o3; split <;> simp [AObj.ren, Wd_ren]
theorem BB.o4_ren (ι : Nat → Nat) (b : BB) : b.o4.ren ι = b.o4 := by unfold BB.o4; split; rfl; split <;> simp [AObj.ren, Wd_ren]
theorem BB.hd_wf (m : Nat) (b : BB) (i : Nat) : wfL m (b.hd i) = decide (i < m) := by simp [BB.hd, wfL, Val.wf]
theorem BB.fl_wf (m : Nat) (b : BB) (i j k : Nat) (h : i < m ∧ j < m ∧ k < m) : wfL m (b.fl i j k) = true := by unfold BB.fl; split; (· simp [wfL, Val.wf, h]); split <;> simp [wfL, Val.wf, h]
theorem BB.o2_wf (m : Nat) (b : BB) : b.o2.wf m = true := by unfold BB.o2; simp [AObj.wf, Wd_wf]
theorem BB.o3_wf (m : Nat) (b : BB) : b.o3.wf m = true := by unfold BB.o3; split <;> simp [AObj.wf, Wd_wf]
theorem BB.o4_wf (m : Nat) (b : BB) : b.o4.wf m = true := by unfold BB.o4; split; rfl; split <;> simp [AObj.wf, Wd_wf]
attribute [local simp] Wd_ren Wd_wf
/-- A contract told with the three, four or five objects, told with five. -/
theorem padM {b : BB} {f : FuncId} {x : List Val} {R : Val → BB → Prop} (hx : ∀ ι, renL ι x = x) (hw : ∀ m, wfL m x = true) (hR : ∀ v b', R v b' → ∀ ι, v.ren ι = v)
    (hc : SoundM Tryd.prog b.m f (.p 0 0 :: x) b.heap (fun v H' => ∃ b' : BB, b'.n = b.n ∧ b'.L = b.L ∧ b'.M = b.M ∧ H' = b'.heap ∧ R v b')) :
    SoundM Tryd.prog 5 f (.p 0 0 :: x) b.pad (fun v H' => ∃ b' : BB, b'.n = b.n ∧ b'.L = b.L ∧ b'.M = b.M ∧ H' = b'.pad ∧ R v b') := by
  have : SoundCall Tryd.prog f (.p 0 0 :: x) b.pad (fun v H' => ∃ b' : BB, b'.n = b.n ∧ b'.L = b.L ∧ b'.M = b.M ∧ H' = b'.pad ∧ R v b') := by
    rcases b.shape with ⟨h, h'⟩ | ⟨h, h'⟩ | ⟨h, h'⟩
    all_goals
      simp only [BB.m, BB.heap, h, h', if_true, if_false] at hc
      simp only [BB.pad, BB.hd, BB.fl, BB.o2, BB.o3, BB.o4, h, h', if_true, if_false]
      (first | (have _s : _ ≤ 64 := of_eq_true h; refine sound_use (hc) [0, 1, 2] rfl (by decide) (by simp [-List.map_map, embAt, nm, AObj.ren, renL, Val.ren, hx, hw, wfL]) (by simp [-List.map_map, wfAll, AObj.wf, wfL, Val.wf, hx, hw, wfL]) (by simp [-List.map_map, Val.wf, wfL, hx, hw, wfL]) (by simp [-List.map_map, Val.ren, renL, nm, hx, hw, wfL]) ?_) | (have _s : _ ≤ 4096 := of_eq_true h'; refine sound_use (hc) [0, 1, 2, 3] rfl (by decide) (by simp [-List.map_map, embAt, nm, AObj.ren, renL, Val.ren, hx, hw, wfL]) (by simp [-List.map_map, wfAll, AObj.wf, wfL, Val.wf, hx, hw, wfL]) (by simp [-List.map_map, Val.wf, wfL, hx, hw, wfL]) (by simp [-List.map_map, Val.ren, renL, nm, hx, hw, wfL]) ?_) | (refine sound_use (hc) [0, 1, 2, 3, 4] rfl (by decide) (by simp [-List.map_map, embAt, nm, AObj.ren, renL, Val.ren, hx, hw, wfL]) (by simp [-List.map_map, wfAll, AObj.wf, wfL, Val.wf, hx, hw, wfL]) (by simp [-List.map_map, Val.wf, wfL, hx, hw, wfL]) (by simp [-List.map_map, Val.ren, renL, nm, hx, hw, wfL]) ?_))
      rintro v C' ⟨b', e1, e2, e3, rfl, hr⟩
      (try rw [← e1] at h) ; (try rw [← e1] at h')
      refine ⟨b', e1, e2, e3, ?_, by rw [hR v b' hr]; exact hr⟩
      simp only [h, h', if_true, if_false]
      simp only [merge, place, after, nm, MG, Val.ren, renL, AObj.ren, reduceIte, Nat.reduceLT, Nat.reduceAdd, Nat.reduceSub, Nat.lt_irrefl, Nat.zero_lt_one, Nat.zero_lt_succ, BB.pad, BB.hd, BB.fl, BB.o2, BB.o3, BB.o4, h, h', Wd_ren, if_true, if_false]
  exact this
theorem setP (b : BB) (hb : b.ok) (i : Int) : SoundM Tryd.prog 5 47 [.p 0 0, .i .i64 i] b.pad (fun v H' => ∃ b' : BB, b'.n = b.n ∧ b'.L = b.L ∧ b'.M = b.M ∧ H' = b'.pad ∧
    ((b.has i = false ∧ 0 ≤ i ∧ i < b.n ∧ v = .b true ∧ b' = b.set i.toNat) ∨ ((b.has i = true ∨ ¬ (0 ≤ i ∧ i < b.n)) ∧ v = .b false ∧ b' = b))) := by
  refine padM (fun _ => rfl) (fun _ => rfl) (by rintro v b' (⟨_, _, _, rfl, _⟩ | ⟨_, rfl, _⟩) ι <;> rfl) ((set_c b hb i).mono ?_)
  rintro v H' (⟨h1, h2, h3, rfl, rfl⟩ | ⟨h1, rfl, rfl⟩)
  · exact ⟨b.set i.toNat, rfl, rfl, rfl, rfl, .inl ⟨h1, h2, h3, rfl, rfl⟩⟩
  · exact ⟨b, rfl, rfl, rfl, rfl, .inr ⟨h1, rfl, rfl⟩⟩
theorem clearP (b : BB) (hb : b.ok) (i : Int) (hpos : b.has i = true → 1 ≤ b.k) : SoundM Tryd.prog 5 48 [.p 0 0, .i .i64 i] b.pad (fun v H' => ∃ b' : BB, b'.n = b.n ∧ b'.L = b.L ∧ b'.M = b.M ∧ H' = b'.pad ∧
    ((b.has i = true ∧ v = .b true ∧ b' = b.clear i.toNat) ∨ (b.has i = false ∧ v = .b false ∧ b' = b))) := by
  refine padM (fun _ => rfl) (fun _ => rfl) (by rintro v b' (⟨_, rfl, _⟩ | ⟨_, rfl, _⟩) ι <;> rfl) ((clear_c b hb i hpos).mono ?_)
  rintro v H' (⟨h1, rfl, rfl⟩ | ⟨h1, rfl, rfl⟩)
  · exact ⟨b.clear i.toNat, rfl, rfl, rfl, rfl, .inl ⟨h1, rfl, rfl⟩⟩
  · exact ⟨b, rfl, rfl, rfl, rfl, .inr ⟨h1, rfl, rfl⟩⟩
/-- A contract that leaves the bitmap as it is. -/
theorem padQ {b : BB} {f : FuncId} {x : List Val} {R : Val → Prop} (hx : ∀ ι, renL ι x = x) (hw : ∀ m, wfL m x = true) (hR : ∀ v, R v → ∀ ι, v.ren ι = v)
    (h : SoundM Tryd.prog b.m f (.p 0 0 :: x) b.heap (fun v H' => H' = b.heap ∧ R v)) : SoundM Tryd.prog 5 f (.p 0 0 :: x) b.pad (fun v H' => H' = b.pad ∧ R v) := by
  refine (padM (R := fun v b' => b' = b ∧ R v) hx hw (fun v b' hr => hR v hr.2) (h.mono ?_)).mono ?_
  · rintro v H' ⟨rfl, hr⟩
    exact ⟨b, rfl, rfl, rfl, rfl, rfl, hr⟩
  · rintro v H' ⟨b', _, _, _, rfl, rfl, hr⟩
    exact ⟨rfl, hr⟩
theorem ans_ren (o : Option Nat) (ι : Nat → Nat) : (ans o).ren ι = ans o := by cases o <;> rfl
theorem roundP (b : BB) (hb : b.ok) (i : Int) : SoundM Tryd.prog 5 39 [.p 0 0, .i .i64 i] b.pad (fun v H' => H' = b.pad ∧ ∃ o, IsRound b.p i.toNat o ∧ v = ans o) :=
  padQ (fun _ => rfl) (fun _ => rfl) (by rintro v ⟨o, _, rfl⟩ ι; exact ans_ren o ι) (round_c b hb i)
theorem newP (n : Nat) (h1 : 1 ≤ n) (h2 : n ≤ 65536) : SoundM Tryd.prog 0 42 [.i .i64 n] [] (fun v H' => v = .tup [.p 0 0, .i .i64 0] ∧ H' = (BB.new n).pad) := by
  rcases (BB.new n).shape with ⟨h, h'⟩ | ⟨h, h'⟩ | ⟨h, h'⟩
  · refine ((new_c n h1 h2).more (R := fun v H' => v = .tup [.p 0 0, .i .i64 0] ∧ H' = (BB.new n).heap ++ [.dead]) ?_).more ?_
    · rintro v H' ⟨rfl, rfl⟩; exact ⟨rfl, rfl⟩
    · rintro v H' ⟨rfl, rfl⟩
      exact ⟨rfl, by simp only [BB.pad, BB.heap, BB.hd, BB.fl, BB.o2, BB.o3, BB.o4, h, h', if_true, if_false, List.cons_append, List.nil_append]⟩
  · refine (new_c n h1 h2).more ?_
    rintro v H' ⟨rfl, rfl⟩
    exact ⟨rfl, by simp only [BB.pad, BB.heap, BB.hd, BB.fl, BB.o2, BB.o3, BB.o4, h, h', if_true, if_false, List.cons_append, List.nil_append]⟩
  · refine (new_c n h1 h2).mono ?_
    rintro v H' ⟨rfl, rfl⟩
    exact ⟨rfl, by simp only [BB.pad, BB.heap, BB.hd, BB.fl, BB.o2, BB.o3, BB.o4, h, h', if_true, if_false]⟩
theorem upto_congr {p q : Nat → Bool} : ∀ {n : Nat}, (∀ j, j < n → p j = q j) → upto p n = upto q n
  | 0, _ => rfl
  | n + 1, h => by rw [upto_succ, upto_succ, h n (by omega), upto_congr fun j hj => h j (by omega)]
theorem upto_len1 {p : Nat → Bool} {i : Nat} (hp : p i = false) : ∀ {n : Nat}, i < n → (upto (upd p i true) n).length = (upto p n).length + 1
  | 0, h => by omega
  | n + 1, h => by
    rw [upto_succ, upto_succ]
    by_cases e : i = n
    · subst e
      rw [upto_congr (q := p) fun j hj => by unfold upd; rw [if_neg (by omega)]]
      simp [upd, hp]
    · have := upto_len1 hp (n := n) (by omega)
      have e2 : upd p i true n = p n := by unfold upd; rw [if_neg (by omega)]
      rw [e2]
      split <;> simp [this]
theorem upto_len0 {p : Nat → Bool} {i : Nat} (hp : p i = true) : ∀ {n : Nat}, i < n → (upto (upd p i false) n).length + 1 = (upto p n).length
  | 0, h => by omega
  | n + 1, h => by
    rw [upto_succ, upto_succ]
    by_cases e : i = n
    · subst e
      rw [upto_congr (q := p) fun j hj => by unfold upd; rw [if_neg (by omega)]]
      simp [upd, hp]
    · have := upto_len0 hp (n := n) (by omega)
      have e2 : upd p i false n = p n := by unfold upd; rw [if_neg (by omega)]
      rw [e2]
      split <;> (try simp only [List.length_append, List.length_singleton]) <;> omega
theorem upto_none0 (n : Nat) : upto (fun _ => false) n = [] := by
  have := upto_none (fun _ => false) 0 n fun _ _ _ => rfl
  rwa [Nat.zero_add] at this
/-- A bitmap of n places that is as it should be, and knows how many marks it has. -/
structure BB.good (b : BB) (n : Nat) : Prop where
  ok : b.ok
  n : b.n = n
  k : b.k = (upto b.p b.n).length
theorem good_new {n : Nat} (h1 : 1 ≤ n) (h2 : n ≤ 65536) : (BB.new n).good n := ⟨BB.new_ok n h1 h2, rfl, by show (0 : Int) = _; rw [show (BB.new n).p = fun _ => false from rfl, upto_none0]; rfl⟩
theorem BB.has_p {b : BB} {j : Nat} : b.has j = b.p j := by simp [BB.has]
theorem good_set {b : BB} {n : Nat} (h : b.good n) {i : Int} (hh : b.has i = false) (h0 : 0 ≤ i) (h1 : i < b.n) : (b.set i.toNat).good n := by
  obtain ⟨j, rfl⟩ : ∃ j : Nat, i = j := ⟨i.toNat, by omega⟩
  rw [BB.has_p] at hh
  have hj : j < b.n := by omega
  rw [Int.toNat_natCast]
  have hc := upto_len1 hh hj
  have hk : (b.set j).k = (upto (b.set j).p (b.set j).n).length := by
    show b.k + 1 = ((upto (upd b.p j true) b.n).length : Int)
    rw [hc, h.k]; omega
  have hl := upto_len (b.set j).p (b.set j).n
  have hn : (b.set j).n = b.n := rfl
  have hn1 := h.ok.n1
  exact ⟨⟨h.ok.n0, h.ok.n1, h.ok.below.upd hj true, h.ok.L, h.ok.M, by rw [hk]; omega, by rw [hk]; omega⟩, h.n, hk⟩
theorem good_clear {b : BB} {n : Nat} (h : b.good n) {i : Int} (hh : b.has i = true) : (b.clear i.toNat).good n := by
  obtain ⟨h0, h1⟩ := BB.has_in h.ok hh
  obtain ⟨j, rfl⟩ : ∃ j : Nat, i = j := ⟨i.toNat, by omega⟩
  rw [BB.has_p] at hh
  have hj : j < b.n := by omega
  rw [Int.toNat_natCast]
  have hc := upto_len0 hh hj
  have hk : (b.clear j).k = (upto (b.clear j).p (b.clear j).n).length := by
    show b.k - 1 = ((upto (upd b.p j false) b.n).length : Int)
    rw [h.k]; omega
  have hl := upto_len (b.clear j).p (b.clear j).n
  have hn : (b.clear j).n = b.n := rfl
  have hn1 := h.ok.n1
  exact ⟨⟨h.ok.n0, h.ok.n1, h.ok.below.upd hj false, h.ok.L, h.ok.M, by rw [hk]; omega, by rw [hk]; omega⟩, h.n, hk⟩
theorem good_pos {b : BB} {n : Nat} (h : b.good n) {i : Int} (hh : b.has i = true) : 1 ≤ b.k := by
  have := (good_clear h hh).ok.k0
  have e : (b.clear i.toNat).k = b.k - 1 := rfl
  omega
end Go.Proofs.YtmdilnelogechaaDoor.IR
