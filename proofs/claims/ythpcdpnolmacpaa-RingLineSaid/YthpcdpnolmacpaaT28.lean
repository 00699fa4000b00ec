/- One text of a proof that a law answers true for every input. No condition. -/
import Derived.Test.YthpcdpnolmacpaaS24
import Derived.Test.YthpcdpnolmacpaaEvF
set_option linter.unusedVariables false
set_option linter.unusedSimpArgs false
set_option linter.constructorNameAsVariable false
namespace Go.Proofs.Ythpcdpnolmacpaa.IR
open Go Go.Proofs.Ythpcdpnolmacpaa.Ev
set_option linter.unusedSimpArgs false
set_option linter.unusedVariables false
set_option maxHeartbeats 4000000
attribute [local go_sem] skipV nc0 nc1 nc2 nc3 bne_self_eq_false decide_true decide_false IOp.step Opd.ev Env.get initEnv Val.cells? Val.one List.all_cons List.all_nil Bool.and_true Bool.and_self Bool.true_and bin ints eqv Val.kindNo lenNo_s lenNo_nils lenNo_sl lenNo_nilm lenNo_m lenOf_s lenOf_nils lenOf_sl lenOf_nilm unary mxs mx2 partsOf padTo List.foldl_cons List.foldl_nil wr_nil wr_step wr_zero List.set_cons_zero List.set_cons_succ List.map_cons List.map_nil z1 z2 Nat.succ_ne_zero List.length_cons List.length_nil List.cons_append List.nil_append List.append_nil List.getElem?_cons_zero List.getElem?_cons_succ List.getElem?_nil Option.map_some Option.map_none Nat.zero_add Nat.add_zero List.drop_zero List.drop_succ_cons List.take_succ_cons List.take_zero List.take_nil and_self and_true true_and Nat.le_refl Bool.not_true Bool.not_false Option.getD_some window Val.slen bnd resV resL RV.val Bool.false_eq_true BEq.rfl Bool.true_beq Bool.false_beq beq_true beq_false mk_one ite_true ite_false eqc ceqs ceq
def ev3 (x : Int × Int × Int) : List Val := [.i .u64 x.1, .i .i64 x.2.1, .i .u64 x.2.2]
theorem ev3_len (x : Int × Int × Int) : (ev3 x).length = 3 := rfl
theorem ev3_flat (l : List (Int × Int × Int)) : (l.flatMap ev3).length = l.length * 3 := flat_len ev3_len l
theorem ev3_wr (l : List (Int × Int × Int)) (i : Nat) (a b c : Int) (h : i < l.length) : wr (l.flatMap ev3) (i * 3) [.i .u64 a, .i .i64 b, .i .u64 c] = (l.set i (a, b, c)).flatMap ev3 := wr_flat ev3_len l i (a, b, c) h
theorem ev3_ren (ι : Nat → Nat) (l : List (Int × Int × Int)) : renL ι (l.flatMap ev3) = l.flatMap ev3 := renL_flat ι l (fun _ => rfl)
theorem ev3_wf (m : Nat) (l : List (Int × Int × Int)) : wfL m (l.flatMap ev3) = true := wfL_flat m (fun _ => rfl) l
structure RS where
  first : Int
  many : Int
  l : List (Int × Int × Int)
  rate : Int
  clock : Int
  last : Int
  bytes : Int
  shut : Bool
def RS.cells (s : RS) : List Val := [.i .i64 s.first, .i .i64 s.many, .sl 1 0 s.l.length 3, .i .u64 s.rate, .i .u64 s.clock, .i .u64 s.last, .i .u64 s.bytes, .b s.shut]
def RS.heap (s : RS) : Heap := [.rw s.cells, .rw (s.l.flatMap ev3)]
structure RS.ok (s : RS) : Prop where
  f0 : 0 ≤ s.first
  f1 : s.first < s.l.length
  m0 : 0 ≤ s.many
  m1 : s.many ≤ s.l.length
  len : s.l.length ≤ 4096



theorem none_c (s : RS) : SoundM Try.prog 2 27 [.p 0 0] s.heap (fun v H' => v = .b false ∧ H' = s.heap) := by
  refine sound_func Try.func27 c27 rfl (by simp [RS.heap]) ?_
  simp only [e27, RS.heap, RS.cells]
  repeat (first
    | ((first | (with_reducible first | apply Aa | apply Ab | apply Ac | apply Ad | apply Ae | apply Af | apply Na | apply Nb) | ((with_reducible first | apply Ag | apply Ah | apply Nc); · (simp only [go_sem, reduceIte, Nat.reduceEqDiff]; (try with_reducible exact rfl)))); · (simp only [go_sem, Int.reduceBEq, Int.reduceBNe, Int.reduceLT, Int.reduceLE, Int.reduceAdd, Int.reduceSub, Int.reduceToNat, reduceIte, Nat.reduceEqDiff, Nat.reduceAdd, Nat.reduceMul, Nat.reduceLeDiff, Nat.reduceSub, reduceCtorEq]; (try simp (disch := omega) only [OM, mn_lo, mn_hi, mx_lo, mx_hi, if_yes, if_no, Option.map_some]); (try with_reducible exact rfl)))
    | ((with_reducible first | apply Ba | apply Bb | apply Bc | apply Bd | apply Be | apply Nd); · (simp only [go_sem, reduceIte, Nat.reduceEqDiff]; (try with_reducible exact rfl))) | ((with_reducible first | apply Ca | apply Cb | apply Cc | apply Cd | apply Ce | apply Ne); · (simp only [go_sem, reduceIte, Nat.reduceEqDiff]; (try with_reducible exact rfl)))
    | ((with_reducible first | apply Dg | apply Dh); (· decide +kernel); (· (simp only [inOrd, List.getElem?_cons_succ, List.getElem?_cons_zero]; exact rfl)))
    | ((with_reducible first | apply De | apply Df); (· decide +kernel); (· (simp only [inOrd, List.getElem?_cons_succ, List.getElem?_cons_zero]; exact rfl)))
    | (with_reducible first | apply Ea | apply Eb | apply Ec | apply Ed | apply Ee | apply Ef | apply Eg | apply Eh | apply Ei | apply Ej | apply Ek | apply El | apply Em | apply En | apply Eo) | ((with_reducible apply Ep); · rfl))
  exact ⟨rfl, rfl⟩

theorem pop_c (s : RS) (h : s.ok) (hm : 0 < s.many) : SoundM Try.prog 2 32 [.p 0 0] s.heap (fun v H' => v = .tup [] ∧ H' = RS.heap { s with first := (s.first + 1) % s.l.length, many := s.many - 1 }) := by
  obtain ⟨f0, f1, m0, m1, hl⟩ := h
  refine sound_func Try.func32 c32 rfl (by simp [RS.heap]) ?_
  simp only [e32, RS.heap, RS.cells]
  repeat (first
    | ((first | (with_reducible first | apply Aa | apply Ab | apply Ac | apply Ad | apply Ae | apply Af | apply Na | apply Nb) | ((with_reducible first | apply Ag | apply Ah | apply Nc); · (simp only [go_sem, reduceIte, Nat.reduceEqDiff]; (try with_reducible exact rfl)))); · (simp only [go_sem, Int.reduceBEq, Int.reduceBNe, Int.reduceLT, Int.reduceLE, Int.reduceAdd, Int.reduceSub, Int.reduceToNat, reduceIte, Nat.reduceEqDiff, Nat.reduceAdd, Nat.reduceMul, Nat.reduceLeDiff, Nat.reduceSub, reduceCtorEq]; (try simp (disch := omega) only [OM, mn_lo, mn_hi, mx_lo, mx_hi, if_yes, if_no, Option.map_some]); (try with_reducible exact rfl)))
    | ((with_reducible first | apply Ba | apply Bb | apply Bc | apply Bd | apply Be | apply Nd); · (simp only [go_sem, reduceIte, Nat.reduceEqDiff]; (try with_reducible exact rfl))) | ((with_reducible first | apply Ca | apply Cb | apply Cc | apply Cd | apply Ce | apply Ne); · (simp only [go_sem, reduceIte, Nat.reduceEqDiff]; (try with_reducible exact rfl)))
    | ((with_reducible first | apply Dg | apply Dh); (· decide +kernel); (· (simp only [inOrd, List.getElem?_cons_succ, List.getElem?_cons_zero]; exact rfl)))
    | ((with_reducible first | apply De | apply Df); (· decide +kernel); (· (simp only [inOrd, List.getElem?_cons_succ, List.getElem?_cons_zero]; exact rfl)))
    | (with_reducible first | apply Ea | apply Eb | apply Ec | apply Ed | apply Ee | apply Ef | apply Eg | apply Eh | apply Ei | apply Ej | apply Ek | apply El | apply Em | apply En | apply Eo) | ((with_reducible apply Ep); · rfl))
  exact ⟨rfl, rfl⟩


theorem push_c (s : RS) (x : Int × Int × Int) (h : s.ok) (hm : s.many < s.l.length) : SoundM Try.prog 2 28 [.p 0 0, .agg (ev3 x)] s.heap (fun v H' => v = .tup [] ∧ H' = RS.heap { s with l := s.l.set ((s.first + s.many) % s.l.length).toNat x, many := s.many + 1 }) := by
  obtain ⟨f0, f1, m0, m1, hl⟩ := h
  have q0 := Int.emod_nonneg (s.first + s.many) (b := s.l.length) (by omega)
  have q1 := Int.emod_lt_of_pos (s.first + s.many) (b := s.l.length) (by omega)
  refine sound_told (sound_func Try.func28 c28 rfl (by simp [RS.heap]) ?_)
  simp only [e28, RS.heap, RS.cells, ev3]
  repeat (first
    | ((first | (with_reducible first | apply Aa | apply Ab | apply Ac | apply Ad | apply Ae | apply Af | apply Na | apply Nb) | ((with_reducible first | apply Ag | apply Ah | apply Nc); · (simp only [go_sem, reduceIte, Nat.reduceEqDiff, ev3_flat, ev3_wr]; (try with_reducible exact rfl)))); · (simp only [go_sem, Int.reduceBEq, Int.reduceBNe, Int.reduceLT, Int.reduceLE, Int.reduceAdd, Int.reduceSub, Int.reduceToNat, reduceIte, Nat.reduceEqDiff, Nat.reduceAdd, Nat.reduceMul, Nat.reduceLeDiff, Nat.reduceSub, reduceCtorEq, ev3_flat, ev3_wr]; (try simp (disch := omega) only [OM, mn_lo, mn_hi, mx_lo, mx_hi, if_yes, if_no, Option.map_some, ev3_flat, ev3_wr]); (try with_reducible exact rfl)))
    | ((with_reducible first | apply Ba | apply Bb | apply Bc | apply Bd | apply Be | apply Nd); · (simp only [go_sem, reduceIte, Nat.reduceEqDiff, ev3_flat, ev3_wr]; (try with_reducible exact rfl))) | ((with_reducible first | apply Ca | apply Cb | apply Cc | apply Cd | apply Ce | apply Ne); · (simp only [go_sem, reduceIte, Nat.reduceEqDiff, ev3_flat, ev3_wr]; (try with_reducible exact rfl)))
    | ((with_reducible first | apply Dg | apply Dh); (· decide +kernel); (· (simp only [inOrd, List.getElem?_cons_succ, List.getElem?_cons_zero]; exact rfl)))
    | ((with_reducible first | apply De | apply Df); (· decide +kernel); (· (simp only [inOrd, List.getElem?_cons_succ, List.getElem?_cons_zero]; exact rfl)))
    | (with_reducible first | apply Ea | apply Eb | apply Ec | apply Ed | apply Ee | apply Ef | apply Eg | apply Eh | apply Ei | apply Ej | apply Ek | apply El | apply Em | apply En | apply Eo) | ((with_reducible apply Ep); · rfl))
  refine told [0, 1] (RS.heap { s with l := s.l.set ((s.first + s.many) % s.l.length).toNat x, many := s.many + 1 }) (.tup []) (by simp [RS.heap, RS.cells, ev3_ren, ev3_wf] <;> fail) (by decide) (by simp [-List.map_map, embAt, nm, AObj.ren, renL, Val.ren, RS.heap, RS.cells, ev3_ren, ev3_wf]) (by simp [-List.map_map, wfAll, AObj.wf, wfL, Val.wf, RS.heap, RS.cells, ev3_ren, ev3_wf]) (by simp [RS.heap, RS.cells, ev3_ren, ev3_wf]) rfl (by simp [-List.map_map, Val.wf, wfL, RS.heap, RS.cells, ev3_ren, ev3_wf]) (by simp [-List.map_map, Val.ren, renL, nm, RS.heap, RS.cells, ev3_ren, ev3_wf]) ?_
  exact ⟨rfl, rfl⟩

theorem head_c (s : RS) (h : s.ok) (x : Int × Int × Int) (hx : s.l[s.first.toNat]? = some x) (hm : 0 < s.many) : SoundM Try.prog 2 31 [.p 0 0] s.heap (fun v H' => v = .tup [.agg (ev3 x), .b true] ∧ H' = RS.heap s) := by
  obtain ⟨f0, f1, m0, m1, hl⟩ := h
  have hd := drop_take_flat ev3_len s.l s.first.toNat x hx
  refine sound_told (sound_func Try.func31 c31 rfl (by simp [RS.heap]) ?_)
  simp only [e31, RS.heap, RS.cells]
  repeat (first
    | ((first | (with_reducible first | apply Aa | apply Ab | apply Ac | apply Ad | apply Ae | apply Af | apply Na | apply Nb) | ((with_reducible first | apply Ag | apply Ah | apply Nc); · (simp only [go_sem, reduceIte, Nat.reduceEqDiff]; (try with_reducible exact rfl)))); · (simp only [go_sem, Int.reduceBEq, Int.reduceBNe, Int.reduceLT, Int.reduceLE, Int.reduceAdd, Int.reduceSub, Int.reduceToNat, reduceIte, Nat.reduceEqDiff, Nat.reduceAdd, Nat.reduceMul, Nat.reduceLeDiff, Nat.reduceSub, reduceCtorEq]; (try simp (disch := omega) only [OM, mn_lo, mn_hi, mx_lo, mx_hi, if_yes, if_no, Option.map_some]); (try with_reducible exact rfl)))
    | ((with_reducible first | apply Ba | apply Bb | apply Bc | apply Bd | apply Be | apply Nd); · (simp only [go_sem, reduceIte, Nat.reduceEqDiff]; (try with_reducible exact rfl))) | ((with_reducible first | apply Ca | apply Cb | apply Cc | apply Cd | apply Ce | apply Ne); · (simp only [go_sem, reduceIte, Nat.reduceEqDiff]; (try with_reducible exact rfl)))
    | ((with_reducible first | apply Dg | apply Dh); (· decide +kernel); (· (simp only [inOrd, List.getElem?_cons_succ, List.getElem?_cons_zero]; exact rfl)))
    | ((with_reducible first | apply De | apply Df); (· decide +kernel); (· (simp only [inOrd, List.getElem?_cons_succ, List.getElem?_cons_zero]; exact rfl)))
    | (with_reducible first | apply Ea | apply Eb | apply Ec | apply Ed | apply Ee | apply Ef | apply Eg | apply Eh | apply Ei | apply Ej | apply Ek | apply El | apply Em | apply En | apply Eo) | ((with_reducible apply Ep); · rfl))
  ((with_reducible apply ei_cond); (· (simp only [go_sem, reduceIte, Nat.reduceEqDiff]; (try with_reducible exact rfl)))) <;> intro hc <;> simp only [beq_iff_eq, beq_eq_false_iff_ne] at hc
  · omega
  repeat (first
    | ((first | (with_reducible first | apply Aa | apply Ab | apply Ac | apply Ad | apply Ae | apply Af | apply Na | apply Nb) | ((with_reducible first | apply Ag | apply Ah | apply Nc); · (simp only [go_sem, reduceIte, Nat.reduceEqDiff, ev3_flat, hd, ev3]; (try with_reducible exact rfl)))); · (simp only [go_sem, Int.reduceBEq, Int.reduceBNe, Int.reduceLT, Int.reduceLE, Int.reduceAdd, Int.reduceSub, Int.reduceToNat, reduceIte, Nat.reduceEqDiff, Nat.reduceAdd, Nat.reduceMul, Nat.reduceLeDiff, Nat.reduceSub, reduceCtorEq, ev3_flat, hd, ev3]; (try simp (disch := omega) only [OM, mn_lo, mn_hi, mx_lo, mx_hi, if_yes, if_no, Option.map_some, ev3_flat, hd, ev3]); (try with_reducible exact rfl)))
    | ((with_reducible first | apply Ba | apply Bb | apply Bc | apply Bd | apply Be | apply Nd); · (simp only [go_sem, reduceIte, Nat.reduceEqDiff, ev3_flat, hd, ev3]; (try with_reducible exact rfl))) | ((with_reducible first | apply Ca | apply Cb | apply Cc | apply Cd | apply Ce | apply Ne); · (simp only [go_sem, reduceIte, Nat.reduceEqDiff, ev3_flat, hd, ev3]; (try with_reducible exact rfl)))
    | ((with_reducible first | apply Dg | apply Dh); (· decide +kernel); (· (simp only [inOrd, List.getElem?_cons_succ, List.getElem?_cons_zero]; exact rfl)))
    | ((with_reducible first | apply De | apply Df); (· decide +kernel); (· (simp only [inOrd, List.getElem?_cons_succ, List.getElem?_cons_zero]; exact rfl)))
    | (with_reducible first | apply Ea | apply Eb | apply Ec | apply Ed | apply Ee | apply Ef | apply Eg | apply Eh | apply Ei | apply Ej | apply Ek | apply El | apply Em | apply En | apply Eo) | ((with_reducible apply Ep); · rfl))
  refine told [0, 1] (RS.heap s) (.tup [.agg (ev3 x), .b true]) (by simp [RS.heap, RS.cells, ev3_ren, ev3_wf, ev3] <;> fail) (by decide) (by simp [-List.map_map, embAt, nm, AObj.ren, renL, Val.ren, RS.heap, RS.cells, ev3_ren, ev3_wf, ev3]) (by simp [-List.map_map, wfAll, AObj.wf, wfL, Val.wf, RS.heap, RS.cells, ev3_ren, ev3_wf, ev3]) (by simp [RS.heap, RS.cells, ev3_ren, ev3_wf, ev3]) rfl (by simp [-List.map_map, Val.wf, wfL, RS.heap, RS.cells, ev3_ren, ev3_wf, ev3]) (by simp [-List.map_map, Val.ren, renL, nm, RS.heap, RS.cells, ev3_ren, ev3_wf, ev3]) ?_
  exact ⟨rfl, rfl⟩

theorem head0_c (s : RS) (h : s.ok) (hm : s.many = 0) : SoundM Try.prog 2 31 [.p 0 0] s.heap (fun v H' => v = .tup [.agg (ev3 (0, 0, 0)), .b false] ∧ H' = RS.heap s) := by
  obtain ⟨f0, f1, m0, m1, hl⟩ := h
  refine sound_told (sound_func Try.func31 c31 rfl (by simp [RS.heap]) ?_)
  simp only [e31, RS.heap, RS.cells, hm]
  repeat (first
    | ((first | (with_reducible first | apply Aa | apply Ab | apply Ac | apply Ad | apply Ae | apply Af | apply Na | apply Nb) | ((with_reducible first | apply Ag | apply Ah | apply Nc); · (simp only [go_sem, reduceIte, Nat.reduceEqDiff]; (try with_reducible exact rfl)))); · (simp only [go_sem, Int.reduceBEq, Int.reduceBNe, Int.reduceLT, Int.reduceLE, Int.reduceAdd, Int.reduceSub, Int.reduceToNat, reduceIte, Nat.reduceEqDiff, Nat.reduceAdd, Nat.reduceMul, Nat.reduceLeDiff, Nat.reduceSub, reduceCtorEq]; (try simp (disch := omega) only [OM, mn_lo, mn_hi, mx_lo, mx_hi, if_yes, if_no, Option.map_some]); (try with_reducible exact rfl)))
    | ((with_reducible first | apply Ba | apply Bb | apply Bc | apply Bd | apply Be | apply Nd); · (simp only [go_sem, reduceIte, Nat.reduceEqDiff]; (try with_reducible exact rfl))) | ((with_reducible first | apply Ca | apply Cb | apply Cc | apply Cd | apply Ce | apply Ne); · (simp only [go_sem, reduceIte, Nat.reduceEqDiff]; (try with_reducible exact rfl)))
    | ((with_reducible first | apply Dg | apply Dh); (· decide +kernel); (· (simp only [inOrd, List.getElem?_cons_succ, List.getElem?_cons_zero]; exact rfl)))
    | ((with_reducible first | apply De | apply Df); (· decide +kernel); (· (simp only [inOrd, List.getElem?_cons_succ, List.getElem?_cons_zero]; exact rfl)))
    | (with_reducible first | apply Ea | apply Eb | apply Ec | apply Ed | apply Ee | apply Ef | apply Eg | apply Eh | apply Ei | apply Ej | apply Ek | apply El | apply Em | apply En | apply Eo) | ((with_reducible apply Ep); · rfl))
  refine told [0, 1] (RS.heap s) (.tup [.agg (ev3 (0, 0, 0)), .b false]) (by simp [RS.heap, RS.cells, ev3_ren, ev3_wf, ev3, hm] <;> fail) (by decide) (by simp [-List.map_map, embAt, nm, AObj.ren, renL, Val.ren, RS.heap, RS.cells, ev3_ren, ev3_wf, ev3, hm]) (by simp [-List.map_map, wfAll, AObj.wf, wfL, Val.wf, RS.heap, RS.cells, ev3_ren, ev3_wf, ev3, hm]) (by simp [RS.heap, RS.cells, ev3_ren, ev3_wf, ev3, hm]) rfl (by simp [-List.map_map, Val.wf, wfL, RS.heap, RS.cells, ev3_ren, ev3_wf, ev3, hm]) (by simp [-List.map_map, Val.ren, renL, nm, RS.heap, RS.cells, ev3_ren, ev3_wf, ev3, hm]) ?_
  exact ⟨rfl, by simp [RS.heap, RS.cells, hm]⟩
end Go.Proofs.Ythpcdpnolmacpaa.IR
