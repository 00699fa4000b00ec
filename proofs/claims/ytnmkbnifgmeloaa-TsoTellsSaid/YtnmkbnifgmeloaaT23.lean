/- This text of a proof shows: what the functions of a train come to: the pieces of a packet. -/
import Derived.Test.YtnmkbnifgmeloaaR23
import Derived.Test.YtnmkbnifgmeloaaEvF
set_option linter.unusedVariables false
set_option linter.unusedSimpArgs false
set_option linter.constructorNameAsVariable false
namespace Go.Proofs.Ytnmkbnifgmeloaa.IR
open Go Go.Proofs.Ytnmkbnifgmeloaa.Ev
set_option linter.unusedSimpArgs false
set_option linter.unusedVariables false
set_option maxHeartbeats 4000000
attribute [local go_sem] skipV nc0 nc1 nc2 nc3 bne_self_eq_false decide_true decide_false IOp.step Opd.ev Env.get initEnv Val.cells? Val.one List.all_cons List.all_nil Bool.and_true Bool.and_self Bool.true_and bin ints eqv Val.kindNo lenNo_s lenNo_nils lenNo_sl lenNo_nilm lenNo_m lenOf_s lenOf_nils lenOf_sl lenOf_nilm unary partsOf padTo List.foldl_cons List.foldl_nil wr_nil wr_step wr_zero List.set_cons_zero List.set_cons_succ List.map_cons List.map_nil z1 z2 Nat.succ_ne_zero List.length_cons List.length_nil List.cons_append List.nil_append List.append_nil List.getElem?_cons_zero List.getElem?_cons_succ List.getElem?_nil Option.map_some Option.map_none Nat.zero_add Nat.add_zero List.drop_zero List.drop_succ_cons List.take_succ_cons List.take_zero List.take_nil and_self and_true true_and Nat.le_refl Bool.not_true Bool.not_false Option.getD_some window Val.slen bnd resV resL RV.val Bool.false_eq_true BEq.rfl Bool.true_beq Bool.false_beq beq_true beq_false mk_one ite_true ite_false eqc ceqs ceq NOp.step isK eq_self
abbrev Pk := Int × Int × Int × Int × Int
def ev5 (x : Pk) : List Val := [.i .u64 x.1, .i .u64 x.2.1, .i .i64 x.2.2.1, .i .u8 x.2.2.2.1, .i .u64 x.2.2.2.2]
def Pk.at (x : Pk) (n : Int) : Pk := (x.1, x.2.1, n, x.2.2.2.1, x.2.2.2.2)
theorem ev5_len (x : Pk) : (ev5 x).length = 5 := rfl
theorem ev5_flat (l : List Pk) : (l.flatMap ev5).length = l.length * 5 := flat_len ev5_len l
theorem ev5_ren (ι : Nat → Nat) (l : List Pk) : renL ι (l.flatMap ev5) = l.flatMap ev5 := renL_flat ι l (fun _ => rfl)
theorem ev5_wf (m : Nat) (l : List Pk) : wfL m (l.flatMap ev5) = true := wfL_flat m (fun _ => rfl) l
theorem ev5_take (l : List Pk) : (l.flatMap ev5).take (l.length * 5) = l.flatMap ev5 := List.take_of_length_le (by rw [ev5_flat]; omega)
theorem ev5_app (l : List Pk) (x : Pk) : l.flatMap ev5 ++ [.i .u64 x.1, .i .u64 x.2.1, .i .i64 x.2.2.1, .i .u8 x.2.2.2.1, .i .u64 x.2.2.2.2] = (l ++ [x]).flatMap ev5 := by simp [ev5]
theorem e1_ren (ι : Nat → Nat) (x : Pk) : renL ι (ev5 x) = ev5 x := rfl
theorem e1_wf (m : Nat) (x : Pk) : wfL m (ev5 x) = true := rfl

/-- The pieces' lengths. -/
def cut : Nat → Int → Int → List Int
  | 0, _, _ => []
  | k + 1, n, s => if n > 0 then (if n ≤ s then n else s) :: cut k (n - s) s else []
def lens (n s : Int) : List Int := cut n.toNat n s

theorem may_c (p : Pk) (s : Int) (H : Heap) : SoundCall Try.prog 28 [.agg (ev5 p), .i .i64 s] H (fun v H' => v = .b (decide (1 ≤ p.2.2.1 ∧ p.2.2.1 ≤ 65536 ∧ 1 ≤ s)) ∧ H' = H) := by
  refine sound_pure rfl (by rintro v rfl; rfl) ?_ H
  refine sound_func Try.func28 c28 rfl (by simp) ?_
  simp only [e28, ev5]
  by_cases h1 : p.2.2.1 ≥ 1 <;> by_cases h2 : p.2.2.1 ≤ 65536 <;> by_cases h3 : s ≥ 1
  all_goals
    repeat (first
    | ((first | (with_reducible first | apply Aa | apply Ab | apply Ac | apply Ad | apply Ae | apply Af | apply Na | apply Nb) | ((with_reducible first | apply Ag | apply Ah | apply Nc); · (simp only [go_sem, reduceIte, Nat.reduceEqDiff, h1, h2, h3]; (try with_reducible exact rfl)))); · (simp only [go_sem, Int.reduceBEq, Int.reduceBNe, Int.reduceLT, Int.reduceLE, Int.reduceAdd, Int.reduceSub, Int.reduceToNat, reduceIte, Nat.reduceEqDiff, Nat.reduceAdd, Nat.reduceMul, Nat.reduceLeDiff, Nat.reduceSub, reduceCtorEq, h1, h2, h3]; (try simp (disch := omega) only [OM, mn_lo, mn_hi, mx_lo, mx_hi, if_yes, if_no, Option.map_some, h1, h2, h3]); (try with_reducible exact rfl)))
    | ((with_reducible first | apply Ba | apply Bb | apply Bc | apply Bd | apply Be | apply Nd); · (simp only [go_sem, reduceIte, Nat.reduceEqDiff, h1, h2, h3]; (try with_reducible exact rfl))) | ((with_reducible first | apply Ca | apply Cb | apply Cc | apply Cd | apply Ce | apply Ne); · (simp only [go_sem, reduceIte, Nat.reduceEqDiff, h1, h2, h3]; (try with_reducible exact rfl)))
    | (with_reducible first | apply Ea | apply Eb | apply Ec | apply Ed | apply Ee | apply Ef | apply Eg | apply Eh | apply Ei | apply Ej | apply Ek | apply El | apply Em | apply En | apply Eo) | ((with_reducible apply Ep); · rfl))
    simp [h2, h3]
    try omega
theorem at_cells (p : Pk) (k : Int) : [Val.i .u64 p.1, .i .u64 p.2.1, .i .i64 k, .i .u8 p.2.2.2.1, .i .u64 p.2.2.2.2] = ev5 (p.at k) := rfl
theorem pieces_c (p : Pk) (s : Int) : SoundM Try.prog 0 29 [.agg (ev5 p), .i .i64 s] [] (fun v H' => v = .fn (.func 33) [] [.p 0 0, .p 1 0] ∧ H' = [.rw (ev5 p), .rw [.i .i64 s]]) := by
  refine sound_func Try.func29 c29 rfl (by simp) ?_
  simp only [e29, ev5]
  repeat (first
    | ((first | (with_reducible first | apply Aa | apply Ab | apply Ac | apply Ad | apply Ae | apply Af | apply Na | apply Nb) | ((with_reducible first | apply Ag | apply Ah | apply Nc); · (simp only [go_sem, reduceIte, Nat.reduceEqDiff]; (try with_reducible exact rfl)))); · (simp only [go_sem, Int.reduceBEq, Int.reduceBNe, Int.reduceLT, Int.reduceLE, Int.reduceAdd, Int.reduceSub, Int.reduceToNat, reduceIte, Nat.reduceEqDiff, Nat.reduceAdd, Nat.reduceMul, Nat.reduceLeDiff, Nat.reduceSub, reduceCtorEq]; (try simp (disch := omega) only [OM, mn_lo, mn_hi, mx_lo, mx_hi, if_yes, if_no, Option.map_some]); (try with_reducible exact rfl)))
    | ((with_reducible first | apply Ba | apply Bb | apply Bc | apply Bd | apply Be | apply Nd); · (simp only [go_sem, reduceIte, Nat.reduceEqDiff]; (try with_reducible exact rfl))) | ((with_reducible first | apply Ca | apply Cb | apply Cc | apply Cd | apply Ce | apply Ne); · (simp only [go_sem, reduceIte, Nat.reduceEqDiff]; (try with_reducible exact rfl)))
    | (with_reducible first | apply Ea | apply Eb | apply Ec | apply Ed | apply Ee | apply Ef | apply Eg | apply Eh | apply Ei | apply Ej | apply Ek | apply El | apply Em | apply En | apply Eo) | ((with_reducible apply Ep); · rfl))
  exact ⟨rfl, rfl⟩
end Go.Proofs.Ytnmkbnifgmeloaa.IR
