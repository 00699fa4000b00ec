/- This text of a proof shows: what Join comes to. -/
import Derived.Test.YtnmkbnifgmeloaaD23
set_option linter.unusedVariables false
set_option linter.unusedSimpArgs false
set_option linter.constructorNameAsVariable false
namespace Go.Proofs.Ytnmkbnifgmeloaa.IR
open Go Go.Proofs.Ytnmkbnifgmeloaa.Ev
set_option linter.unusedSimpArgs false
set_option linter.unusedVariables false
set_option maxHeartbeats 4000000
attribute [local go_sem] skipV nc0 nc1 nc2 nc3 bne_self_eq_false decide_true decide_false IOp.step Opd.ev Env.get initEnv Val.cells? Val.one List.all_cons List.all_nil Bool.and_true Bool.and_self Bool.true_and bin ints eqv Val.kindNo lenNo_s lenNo_nils lenNo_sl lenNo_nilm lenNo_m lenOf_s lenOf_nils lenOf_sl lenOf_nilm unary partsOf padTo List.foldl_cons List.foldl_nil wr_nil wr_step wr_zero List.set_cons_zero List.set_cons_succ List.map_cons List.map_nil z1 z2 Nat.succ_ne_zero List.length_cons List.length_nil List.cons_append List.nil_append List.append_nil List.getElem?_cons_zero List.getElem?_cons_succ List.getElem?_nil Option.map_some Option.map_none Nat.zero_add Nat.add_zero List.drop_zero List.drop_succ_cons List.take_succ_cons List.take_zero List.take_nil and_self and_true true_and Nat.le_refl Bool.not_true Bool.not_false Option.getD_some window Val.slen bnd resV resL RV.val Bool.false_eq_true BEq.rfl Bool.true_beq Bool.false_beq beq_true beq_false mk_one ite_true ite_false eqc ceqs ceq NOp.step isK eq_self
attribute [-go_sem] ceqs ceq
/-- The sum of lengths that may be joined. -/
def sums : List Pk → Int → Option Int
  | [], s => some s
  | x :: r, s => if 1 ≤ x.2.2.1 ∧ x.2.2.1 ≤ 65536 - s then sums r (s + x.2.2.1) else none
def jn (l : List Pk) (z : Int) : Option Pk :=
  match sums l 0, l with
  | some s, x :: r => if 1 ≤ z ∧ x :: r = pcs (x.at s) z then some (x.at s) else none
  | _, _ => none
def zero5 : List Val := [.i .u64 0, .i .u64 0, .i .i64 0, .i .u8 0, .i .u64 0]
def jv (o : Option Pk) : Val :=
  match o with
  | some p => .tup [.agg (ev5 p), .i .i64 0]
  | none => .tup [.agg zero5, .i .i64 2]
theorem sums_len : ∀ {l : List Pk} {a s : Int}, a ≤ 65536 → sums l a = some s → a + l.length ≤ s ∧ s ≤ 65536
  | [], a, s, h, e => by cases e; simp; omega
  | x :: l, a, s, h, e => by
    simp only [sums] at e
    split at e
    · have := sums_len (l := l) (by omega) e
      simp only [List.length_cons]
      omega
    · cases e
theorem ceqs_at (x p : Pk) (q : Int) : ceqs [0, 0, 0, 0, 0] [.i .u64 x.1, .i .u64 x.2.1, .i .i64 x.2.2.1, .i .u8 x.2.2.2.1, .i .u64 x.2.2.2.2] [.i .u64 p.1, .i .u64 p.2.1, .i .i64 q, .i .u8 p.2.2.2.1, .i .u64 p.2.2.2.2] = some (decide (x = p.at q)) := ceqs_pk x (p.at q)
theorem jn_none {l : List Pk} {z : Int} (h : sums l 0 = none) : jn l z = none := by unfold jn; rw [h]
theorem jn_some {x : Pk} {r : List Pk} {z s : Int} (h : sums (x :: r) 0 = some s) : jn (x :: r) z = if 1 ≤ z ∧ x :: r = pcs (x.at s) z then some (x.at s) else none := by unfold jn; rw [h]

def Arw (l : List Pk) (x0 : Pk) (z : Int) (n : Nat) (ρ : Env) (H : Heap) : Prop :=
  ∃ (i : Nat) (s : Int), i + n = l.length ∧ sums (l.drop i) s = sums l 0 ∧ 0 ≤ s ∧ s ≤ 65536 ∧
    AnewS 1 [.rw (l.flatMap ev5), .rw [.sl 0 0 l.length 5], .rw [.i .u64 0, .i .u64 0, .i .i64 0, .i .u8 0, .i .u64 0], .rw [.i .i64 0], .rw (ev5 (x0.at s))] [(1, .i .i64 z), (2, .p 1 0), (4, .p 2 0), (5, .p 3 0), (6, .p 4 0), (24, .sl 0 0 l.length 5), (25, .i .i64 l.length), (26, .i .i64 i)] ρ H
def Brw (l : List Pk) (p : Pk) (s : Int) (asg body : Code) (n : Nat) (ρ : Env) (H : Heap) : Prop :=
  ∃ (k : Nat) (r : Int), n = r.toNat ∧ r ≤ 65536 ∧ k ≤ l.length ∧ pcs p s = l.take k ++ (lens r s).map p.at ∧
    AnewS 9 [.rw (l.flatMap ev5), .rw [.sl 0 0 l.length 5], .rw [.i .u64 0, .i .u64 0, .i .i64 0, .i .u8 0, .i .u64 0], .rw [.i .i64 0], .rw (ev5 p), .rw [.i .i64 k], .rw (ev5 p), .rw [.i .i64 s],
      .loop .ready none 80 [(2, .p 1 0), (4, .p 2 0), (5, .p 3 0), (6, .p 4 0), (9, .p 5 0), (57, .fn (.func 33) [] [.p 6 0, .p 7 0])] [58] asg body] [(0, .yld 8), (1, .p 6 0), (2, .p 7 0), (4, .i .i64 r)] ρ H
theorem join_rw (l : List Pk) (z : Int) (hne : l ≠ []) : SoundM Try.prog 1 18 [.sl 0 0 l.length 5, .i .i64 z] [.rw (l.flatMap ev5)] (fun v H' => v = jv (jn l z) ∧ H' = [.rw (l.flatMap ev5)]) := by
  refine sound_told (sound_func Try.func18 c18 rfl (by simp) ?_)
  simp only [e18]
  obtain ⟨x0, l0, hl0⟩ : ∃ x0 l0, l = x0 :: l0 := by
    cases l with
    | nil => exact absurd rfl hne
    | cons a b => exact ⟨a, b, rfl⟩
  have hx0 : (l.flatMap ev5).take 5 = [.i .u64 x0.1, .i .u64 x0.2.1, .i .i64 x0.2.2.1, .i .u8 x0.2.2.2.1, .i .u64 x0.2.2.2.2] := by
    have := ev5_at (l := l) (i := 0) (x := x0) (by rw [hl0]; rfl)
    simpa using this
  have hlp : 0 < l.length := by rw [hl0]; simp
  have he : ((l.length : Int) == 0) = false := by simp; omega
  by_cases hbig : (l.length : Int) > 65536
  · have hj : jn l z = none := by
      apply jn_none
      cases hs : sums l 0 with
      | none => rfl
      | some s => have := sums_len (by omega) hs; omega
    repeat (first
    | ((first | (with_reducible first | apply Aa | apply Ab | apply Ac | apply Ad | apply Ae | apply Af | apply Na | apply Nb) | ((with_reducible first | apply Ag | apply Ah | apply Nc); · (simp only [go_sem, reduceIte, Nat.reduceEqDiff, he, hbig]; (try with_reducible exact rfl)))); · (simp only [go_sem, Int.reduceBEq, Int.reduceBNe, Int.reduceLT, Int.reduceLE, Int.reduceAdd, Int.reduceSub, Int.reduceToNat, reduceIte, Nat.reduceEqDiff, Nat.reduceAdd, Nat.reduceMul, Nat.reduceLeDiff, Nat.reduceSub, reduceCtorEq, he, hbig]; (try simp (disch := omega) only [OM, mn_lo, mn_hi, mx_lo, mx_hi, if_yes, if_no, Option.map_some, he, hbig]); (try with_reducible exact rfl)))
    | ((with_reducible first | apply Ba | apply Bb | apply Bc | apply Bd | apply Be | apply Nd); · (simp only [go_sem, reduceIte, Nat.reduceEqDiff, he, hbig]; (try with_reducible exact rfl))) | ((with_reducible first | apply Ca | apply Cb | apply Cc | apply Cd | apply Ce | apply Ne); · (simp only [go_sem, reduceIte, Nat.reduceEqDiff, he, hbig]; (try with_reducible exact rfl)))
    | ((with_reducible first | apply Dg | apply Dh); (· decide +kernel); (· (simp only [inOrd, List.getElem?_cons_succ, List.getElem?_cons_zero]; exact rfl)))
    | ((with_reducible first | apply De | apply Df); (· decide +kernel); (· (simp only [inOrd, List.getElem?_cons_succ, List.getElem?_cons_zero]; exact rfl)))
    | (with_reducible first | apply Ea | apply Eb | apply Ec | apply Ed | apply Ee | apply Ef | apply Eg | apply Eh | apply Ei | apply Ej | apply Ek | apply El | apply Em | apply En | apply Eo) | ((with_reducible apply Ep); · rfl))
    refine told [0] [.rw (l.flatMap ev5)] (jv none) (by simp [ev5_ren, ev5_wf, jv, zero5] <;> fail) (by decide) (by simp [-List.map_map, embAt, nm, rn_rw, rn_ro, rn_map, rn_iter, rn_dead, renL, Val.ren, ev5_ren, ev5_wf, jv, zero5]) (by simp [-List.map_map, wfAll, wn_rw, wn_ro, wn_map, wn_iter, wn_dead, wfL, Val.wf, ev5_ren, ev5_wf, jv, zero5]) (by simp [ev5_ren, ev5_wf, jv, zero5]) rfl (by simp [-List.map_map, Val.wf, wfL, ev5_ren, ev5_wf, jv, zero5]) (by simp [-List.map_map, Val.ren, renL, nm, ev5_ren, ev5_wf, jv, zero5]) ?_
    exact ⟨by rw [hj], rfl⟩
  repeat (first
    | ((first | (with_reducible first | apply Aa | apply Ab | apply Ac | apply Ad | apply Ae | apply Af | apply Na | apply Nb) | ((with_reducible first | apply Ag | apply Ah | apply Nc); · (simp only [go_sem, reduceIte, Nat.reduceEqDiff, he, hbig, hx0, ev5_flat]; (try with_reducible exact rfl)))); · (simp only [go_sem, Int.reduceBEq, Int.reduceBNe, Int.reduceLT, Int.reduceLE, Int.reduceAdd, Int.reduceSub, Int.reduceToNat, reduceIte, Nat.reduceEqDiff, Nat.reduceAdd, Nat.reduceMul, Nat.reduceLeDiff, Nat.reduceSub, reduceCtorEq, he, hbig, hx0, ev5_flat]; (try simp (disch := omega) only [OM, mn_lo, mn_hi, mx_lo, mx_hi, if_yes, if_no, Option.map_some, he, hbig, hx0, ev5_flat]); (try with_reducible exact rfl)))
    | ((with_reducible first | apply Ba | apply Bb | apply Bc | apply Bd | apply Be | apply Nd); · (simp only [go_sem, reduceIte, Nat.reduceEqDiff, he, hbig, hx0, ev5_flat]; (try with_reducible exact rfl))) | ((with_reducible first | apply Ca | apply Cb | apply Cc | apply Cd | apply Ce | apply Ne); · (simp only [go_sem, reduceIte, Nat.reduceEqDiff, he, hbig, hx0, ev5_flat]; (try with_reducible exact rfl)))
    | ((with_reducible first | apply Dg | apply Dh); (· decide +kernel); (· (simp only [inOrd, List.getElem?_cons_succ, List.getElem?_cons_zero]; exact rfl)))
    | ((with_reducible first | apply De | apply Df); (· decide +kernel); (· (simp only [inOrd, List.getElem?_cons_succ, List.getElem?_cons_zero]; exact rfl)))
    | (with_reducible first | apply Ea | apply Eb | apply Ec | apply Ed | apply Ee | apply Ef | apply Eg | apply Eh | apply Ei | apply Ej | apply Ek | apply El | apply Em | apply En | apply Eo) | ((with_reducible apply Ep); · rfl))
  refine ei_loop (Arw l x0 z) (n := l.length) ?_ ?_
  · refine ⟨0, 0, by omega, rfl, by omega, by omega, ?_⟩
    refine anew [0, 1, 2, 3, 4] (by simp [ev5_ren, ev5_wf, nc0, ev5, Pk.at] <;> fail) (by decide) (by simp [-List.map_map, embAt, nm, rn_rw, rn_ro, rn_map, rn_iter, rn_dead, renL, Val.ren, ev5_ren, ev5_wf, nc0, ev5, Pk.at]) (by simp [-List.map_map, wfAll, wn_rw, wn_ro, wn_map, wn_iter, wn_dead, wfL, Val.wf, ev5_ren, ev5_wf, nc0, ev5, Pk.at]) (by simp [ev5_ren, ev5_wf, nc0, ev5, Pk.at]) rfl (by simp [-List.map_map, Val.wf, wfL, ev5_ren, ev5_wf, nc0, ev5, Pk.at]) (by simp [-List.map_map, Env.get, Val.ren, renL, nm, initEnv, ev5_ren, ev5_wf, nc0, ev5, Pk.at])
  · rintro n ρ H ⟨i, s, hin, hsum, hs0, hs1, ha⟩
    refine ei_anewS ha ?_
    clear ha
    simp only [ev5, Pk.at]
    by_cases hlt : i < l.length
    · have hlt' : (i : Int) < l.length := by omega
      obtain ⟨x, hx⟩ : ∃ x, l[i]? = some x := ⟨_, List.getElem?_eq_getElem hlt⟩
      have hxa := ev5_at hx
      have hdr : l.drop i = x :: l.drop (i + 1) := by
        have hh := List.drop_eq_getElem_cons hlt
        rw [List.getElem?_eq_getElem hlt] at hx
        cases hx; exact hh
      rw [hdr] at hsum
      simp only [sums] at hsum
      by_cases c1 : x.2.2.1 < 1
      · rw [if_neg (by omega)] at hsum
        repeat (first
    | ((first | (with_reducible first | apply Aa | apply Ab | apply Ac | apply Ad | apply Ae | apply Af | apply Na | apply Nb) | ((with_reducible first | apply Ag | apply Ah | apply Nc); · (simp only [go_sem, reduceIte, Nat.reduceEqDiff, hlt', hxa, Int.toNat_natCast, ev5_flat, c1]; (try with_reducible exact rfl)))); · (simp only [go_sem, Int.reduceBEq, Int.reduceBNe, Int.reduceLT, Int.reduceLE, Int.reduceAdd, Int.reduceSub, Int.reduceToNat, reduceIte, Nat.reduceEqDiff, Nat.reduceAdd, Nat.reduceMul, Nat.reduceLeDiff, Nat.reduceSub, reduceCtorEq, hlt', hxa, Int.toNat_natCast, ev5_flat, c1]; (try simp (disch := omega) only [OM, mn_lo, mn_hi, mx_lo, mx_hi, if_yes, if_no, Option.map_some, hlt', hxa, Int.toNat_natCast, ev5_flat, c1]); (try with_reducible exact rfl)))
    | ((with_reducible first | apply Ba | apply Bb | apply Bc | apply Bd | apply Be | apply Nd); · (simp only [go_sem, reduceIte, Nat.reduceEqDiff, hlt', hxa, Int.toNat_natCast, ev5_flat, c1]; (try with_reducible exact rfl))) | ((with_reducible first | apply Ca | apply Cb | apply Cc | apply Cd | apply Ce | apply Ne); · (simp only [go_sem, reduceIte, Nat.reduceEqDiff, hlt', hxa, Int.toNat_natCast, ev5_flat, c1]; (try with_reducible exact rfl)))
    | ((with_reducible first | apply Dg | apply Dh); (· decide +kernel); (· (simp only [inOrd, List.getElem?_cons_succ, List.getElem?_cons_zero]; exact rfl)))
    | ((with_reducible first | apply De | apply Df); (· decide +kernel); (· (simp only [inOrd, List.getElem?_cons_succ, List.getElem?_cons_zero]; exact rfl)))
    | (with_reducible first | apply Ea | apply Eb | apply Ec | apply Ed | apply Ee | apply Ef | apply Eg | apply Eh | apply Ei | apply Ej | apply Ek | apply El | apply Em | apply En | apply Eo) | ((with_reducible apply Ep); · rfl))
        refine told [0] [.rw (l.flatMap ev5)] (jv none) (by simp [ev5_ren, ev5_wf, jv, zero5] <;> fail) (by decide) (by simp [-List.map_map, embAt, nm, rn_rw, rn_ro, rn_map, rn_iter, rn_dead, renL, Val.ren, ev5_ren, ev5_wf, jv, zero5]) (by simp [-List.map_map, wfAll, wn_rw, wn_ro, wn_map, wn_iter, wn_dead, wfL, Val.wf, ev5_ren, ev5_wf, jv, zero5]) (by simp [ev5_ren, ev5_wf, jv, zero5]) rfl (by simp [-List.map_map, Val.wf, wfL, ev5_ren, ev5_wf, jv, zero5]) (by simp [-List.map_map, Val.ren, renL, nm, ev5_ren, ev5_wf, jv, zero5]) ?_
        exact ⟨by rw [jn_none hsum.symm], rfl⟩
      by_cases c2 : x.2.2.1 > 65536 - s
      · rw [if_neg (by omega)] at hsum
        repeat (first
    | ((first | (with_reducible first | apply Aa | apply Ab | apply Ac | apply Ad | apply Ae | apply Af | apply Na | apply Nb) | ((with_reducible first | apply Ag | apply Ah | apply Nc); · (simp only [go_sem, reduceIte, Nat.reduceEqDiff, hlt', hxa, Int.toNat_natCast, ev5_flat, c1, c2]; (try with_reducible exact rfl)))); · (simp only [go_sem, Int.reduceBEq, Int.reduceBNe, Int.reduceLT, Int.reduceLE, Int.reduceAdd, Int.reduceSub, Int.reduceToNat, reduceIte, Nat.reduceEqDiff, Nat.reduceAdd, Nat.reduceMul, Nat.reduceLeDiff, Nat.reduceSub, reduceCtorEq, hlt', hxa, Int.toNat_natCast, ev5_flat, c1, c2]; (try simp (disch := omega) only [OM, mn_lo, mn_hi, mx_lo, mx_hi, if_yes, if_no, Option.map_some, hlt', hxa, Int.toNat_natCast, ev5_flat, c1, c2]); (try with_reducible exact rfl)))
    | ((with_reducible first | apply Ba | apply Bb | apply Bc | apply Bd | apply Be | apply Nd); · (simp only [go_sem, reduceIte, Nat.reduceEqDiff, hlt', hxa, Int.toNat_natCast, ev5_flat, c1, c2]; (try with_reducible exact rfl))) | ((with_reducible first | apply Ca | apply Cb | apply Cc | apply Cd | apply Ce | apply Ne); · (simp only [go_sem, reduceIte, Nat.reduceEqDiff, hlt', hxa, Int.toNat_natCast, ev5_flat, c1, c2]; (try with_reducible exact rfl)))
    | ((with_reducible first | apply Dg | apply Dh); (· decide +kernel); (· (simp only [inOrd, List.getElem?_cons_succ, List.getElem?_cons_zero]; exact rfl)))
    | ((with_reducible first | apply De | apply Df); (· decide +kernel); (· (simp only [inOrd, List.getElem?_cons_succ, List.getElem?_cons_zero]; exact rfl)))
    | (with_reducible first | apply Ea | apply Eb | apply Ec | apply Ed | apply Ee | apply Ef | apply Eg | apply Eh | apply Ei | apply Ej | apply Ek | apply El | apply Em | apply En | apply Eo) | ((with_reducible apply Ep); · rfl))
        refine told [0] [.rw (l.flatMap ev5)] (jv none) (by simp [ev5_ren, ev5_wf, jv, zero5] <;> fail) (by decide) (by simp [-List.map_map, embAt, nm, rn_rw, rn_ro, rn_map, rn_iter, rn_dead, renL, Val.ren, ev5_ren, ev5_wf, jv, zero5]) (by simp [-List.map_map, wfAll, wn_rw, wn_ro, wn_map, wn_iter, wn_dead, wfL, Val.wf, ev5_ren, ev5_wf, jv, zero5]) (by simp [ev5_ren, ev5_wf, jv, zero5]) rfl (by simp [-List.map_map, Val.wf, wfL, ev5_ren, ev5_wf, jv, zero5]) (by simp [-List.map_map, Val.ren, renL, nm, ev5_ren, ev5_wf, jv, zero5]) ?_
        exact ⟨by rw [jn_none hsum.symm], rfl⟩
      rw [if_pos (by omega)] at hsum
      repeat (first
    | ((first | (with_reducible first | apply Aa | apply Ab | apply Ac | apply Ad | apply Ae | apply Af | apply Na | apply Nb) | ((with_reducible first | apply Ag | apply Ah | apply Nc); · (simp only [go_sem, reduceIte, Nat.reduceEqDiff, hlt', hxa, Int.toNat_natCast, ev5_flat, c1, c2]; (try with_reducible exact rfl)))); · (simp only [go_sem, Int.reduceBEq, Int.reduceBNe, Int.reduceLT, Int.reduceLE, Int.reduceAdd, Int.reduceSub, Int.reduceToNat, reduceIte, Nat.reduceEqDiff, Nat.reduceAdd, Nat.reduceMul, Nat.reduceLeDiff, Nat.reduceSub, reduceCtorEq, hlt', hxa, Int.toNat_natCast, ev5_flat, c1, c2]; (try simp (disch := omega) only [OM, mn_lo, mn_hi, mx_lo, mx_hi, if_yes, if_no, Option.map_some, hlt', hxa, Int.toNat_natCast, ev5_flat, c1, c2]); (try with_reducible exact rfl)))
    | ((with_reducible first | apply Ba | apply Bb | apply Bc | apply Bd | apply Be | apply Nd); · (simp only [go_sem, reduceIte, Nat.reduceEqDiff, hlt', hxa, Int.toNat_natCast, ev5_flat, c1, c2]; (try with_reducible exact rfl))) | ((with_reducible first | apply Ca | apply Cb | apply Cc | apply Cd | apply Ce | apply Ne); · (simp only [go_sem, reduceIte, Nat.reduceEqDiff, hlt', hxa, Int.toNat_natCast, ev5_flat, c1, c2]; (try with_reducible exact rfl)))
    | ((with_reducible first | apply Dg | apply Dh); (· decide +kernel); (· (simp only [inOrd, List.getElem?_cons_succ, List.getElem?_cons_zero]; exact rfl)))
    | ((with_reducible first | apply De | apply Df); (· decide +kernel); (· (simp only [inOrd, List.getElem?_cons_succ, List.getElem?_cons_zero]; exact rfl)))
    | (with_reducible first | apply Ea | apply Eb | apply Ec | apply Ed | apply Ee | apply Ef | apply Eg | apply Eh | apply Ei | apply Ej | apply Ek | apply El | apply Em | apply En | apply Eo) | ((with_reducible apply Ep); · rfl))
      refine ⟨n - 1, by omega, i + 1, s + x.2.2.1, by omega, hsum, by omega, by omega, ?_⟩
      refine anew [0, 1, 2, 3, 4] (by simp [ev5_ren, ev5_wf, nc0, ev5, Pk.at] <;> fail) (by decide) (by simp [-List.map_map, embAt, nm, rn_rw, rn_ro, rn_map, rn_iter, rn_dead, renL, Val.ren, ev5_ren, ev5_wf, nc0, ev5, Pk.at]) (by simp [-List.map_map, wfAll, wn_rw, wn_ro, wn_map, wn_iter, wn_dead, wfL, Val.wf, ev5_ren, ev5_wf, nc0, ev5, Pk.at]) (by simp [ev5_ren, ev5_wf, nc0, ev5, Pk.at]) rfl (by simp [-List.map_map, Val.wf, wfL, ev5_ren, ev5_wf, nc0, ev5, Pk.at]) (by simp [-List.map_map, Env.get, Val.ren, renL, nm, initEnv, ev5_ren, ev5_wf, nc0, ev5, Pk.at])
    · have hlt' : ¬ (i : Int) < l.length := by omega
      have hsl : sums l 0 = some s := by
        rw [← hsum, List.drop_eq_nil_of_le (by omega)]; rfl
      have hsr := sums_len (by omega) hsl
      have hjn := hl0 ▸ jn_some (z := z) (hl0 ▸ hsl : sums (x0 :: l0) 0 = some s)
      repeat (first
    | ((first | (with_reducible first | apply Aa | apply Ab | apply Ac | apply Ad | apply Ae | apply Af | apply Na | apply Nb) | ((with_reducible first | apply Ag | apply Ah | apply Nc); · (simp only [go_sem, reduceIte, Nat.reduceEqDiff, hlt']; (try with_reducible exact rfl)))); · (simp only [go_sem, Int.reduceBEq, Int.reduceBNe, Int.reduceLT, Int.reduceLE, Int.reduceAdd, Int.reduceSub, Int.reduceToNat, reduceIte, Nat.reduceEqDiff, Nat.reduceAdd, Nat.reduceMul, Nat.reduceLeDiff, Nat.reduceSub, reduceCtorEq, hlt']; (try simp (disch := omega) only [OM, mn_lo, mn_hi, mx_lo, mx_hi, if_yes, if_no, Option.map_some, hlt']); (try with_reducible exact rfl)))
    | ((with_reducible first | apply Ba | apply Bb | apply Bc | apply Bd | apply Be | apply Nd); · (simp only [go_sem, reduceIte, Nat.reduceEqDiff, hlt']; (try with_reducible exact rfl))) | ((with_reducible first | apply Ca | apply Cb | apply Cc | apply Cd | apply Ce | apply Ne); · (simp only [go_sem, reduceIte, Nat.reduceEqDiff, hlt']; (try with_reducible exact rfl)))
    | ((with_reducible first | apply Dg | apply Dh); (· decide +kernel); (· (simp only [inOrd, List.getElem?_cons_succ, List.getElem?_cons_zero]; exact rfl)))
    | ((with_reducible first | apply De | apply Df); (· decide +kernel); (· (simp only [inOrd, List.getElem?_cons_succ, List.getElem?_cons_zero]; exact rfl)))
    | (with_reducible first | apply Ea | apply Eb | apply Ec | apply Ed | apply Ee | apply Ef | apply Eg | apply Eh | apply Ei | apply Ej | apply Ek | apply El | apply Em | apply En | apply Eo) | ((with_reducible apply Ep); · rfl))
      (first | ((with_reducible apply RunP.call); (· (simp only [go_sem, reduceIte, Nat.reduceEqDiff]; (try with_reducible exact rfl))); (· (simp only [go_sem, reduceIte, Nat.reduceEqDiff]; (try with_reducible exact rfl)))) | ((with_reducible apply Run.call); (· (simp only [go_sem, reduceIte, Nat.reduceEqDiff]; (try with_reducible exact rfl))); (· (simp only [go_sem, reduceIte, Nat.reduceEqDiff]; (try with_reducible exact rfl)))) | ((with_reducible apply Run.callY); (· (simp only [go_sem, reduceIte, Nat.reduceEqDiff]; (try with_reducible exact rfl))); (· (simp only [go_sem, reduceIte, Nat.reduceEqDiff]; (try with_reducible exact rfl))); (· (simp only [go_sem, reduceIte, Nat.reduceEqDiff]; (try with_reducible exact rfl)))) | ((with_reducible apply RunP.callY); (· (simp only [go_sem, reduceIte, Nat.reduceEqDiff]; (try with_reducible exact rfl))); (· (simp only [go_sem, reduceIte, Nat.reduceEqDiff]; (try with_reducible exact rfl))); (· (simp only [go_sem, reduceIte, Nat.reduceEqDiff]; (try with_reducible exact rfl)))) | ((with_reducible apply Run.call0); (· (simp only [go_sem, reduceIte, Nat.reduceEqDiff]; (try with_reducible exact rfl))); (· (simp only [go_sem, reduceIte, Nat.reduceEqDiff]; (try with_reducible exact rfl)))))
      refine sound_use (may_c (x0.at s) z []) [] rfl (by decide) (by simp [-List.map_map, embAt, nm, rn_rw, rn_ro, rn_map, rn_iter, rn_dead, renL, Val.ren, ev5, Pk.at]) (by simp [-List.map_map, wfAll, wn_rw, wn_ro, wn_map, wn_iter, wn_dead, wfL, Val.wf, ev5, Pk.at]) (by simp [-List.map_map, Val.wf, wfL, ev5, Pk.at]) (by simp [-List.map_map, Val.ren, renL, nm, ev5, Pk.at]) ?_
      rintro v C' ⟨rfl, rfl⟩
      simp only [merge, place, after, nm, MG, Val.ren, renL, rn_rw, rn_ro, rn_map, rn_iter, rn_dead, reduceIte, Nat.reduceLT, Nat.reduceAdd, Nat.reduceSub, Nat.lt_irrefl, Nat.zero_lt_one, Nat.zero_lt_succ]
      by_cases hz : 1 ≤ z
      · rw [show decide (1 ≤ (x0.at s).2.2.1 ∧ (x0.at s).2.2.1 ≤ 65536 ∧ 1 ≤ z) = true from decide_eq_true ⟨(show 1 ≤ s by omega), hs1, hz⟩]
        generalize hsz : (if z ≤ 65536 then z else 65536) = s'
        have hs1 : 1 ≤ s' := by split at hsz <;> omega
        have hs2 : s' ≤ 65536 := by split at hsz <;> omega
        have hpc : pcs (x0.at s) s' = pcs (x0.at s) z := by
          have := lens_min (n := s) (z := z) (by omega) (by omega) hz
          rw [hsz] at this
          unfold pcs
          exact congrArg _ this
        rw [← hpc] at hjn
        have hmin : mxs true (.i .i64 z) [.i .i64 65536] = some (.i .i64 s') := by
          split at hsz
          · subst hsz; exact mn_lo (by omega)
          · subst hsz; exact mn_hi (by omega)
        repeat (first
    | ((first | (with_reducible first | apply Aa | apply Ab | apply Ac | apply Ad | apply Ae | apply Af | apply Na | apply Nb) | ((with_reducible first | apply Ag | apply Ah | apply Nc); · (simp only [go_sem, reduceIte, Nat.reduceEqDiff, hmin]; (try with_reducible exact rfl)))); · (simp only [go_sem, Int.reduceBEq, Int.reduceBNe, Int.reduceLT, Int.reduceLE, Int.reduceAdd, Int.reduceSub, Int.reduceToNat, reduceIte, Nat.reduceEqDiff, Nat.reduceAdd, Nat.reduceMul, Nat.reduceLeDiff, Nat.reduceSub, reduceCtorEq, hmin]; (try simp (disch := omega) only [OM, mn_lo, mn_hi, mx_lo, mx_hi, if_yes, if_no, Option.map_some, hmin]); (try with_reducible exact rfl)))
    | ((with_reducible first | apply Ba | apply Bb | apply Bc | apply Bd | apply Be | apply Nd); · (simp only [go_sem, reduceIte, Nat.reduceEqDiff, hmin]; (try with_reducible exact rfl))) | ((with_reducible first | apply Ca | apply Cb | apply Cc | apply Cd | apply Ce | apply Ne); · (simp only [go_sem, reduceIte, Nat.reduceEqDiff, hmin]; (try with_reducible exact rfl)))
    | ((with_reducible first | apply Dg | apply Dh); (· decide +kernel); (· (simp only [inOrd, List.getElem?_cons_succ, List.getElem?_cons_zero]; exact rfl)))
    | ((with_reducible first | apply De | apply Df); (· decide +kernel); (· (simp only [inOrd, List.getElem?_cons_succ, List.getElem?_cons_zero]; exact rfl)))
    | (with_reducible first | apply Ea | apply Eb | apply Ec | apply Ed | apply Ee | apply Ef | apply Eg | apply Eh | apply Ei | apply Ej | apply Ek | apply El | apply Em | apply En | apply Eo) | ((with_reducible apply Ep); · rfl))
        (first | ((with_reducible apply RunP.call); (· (simp only [go_sem, reduceIte, Nat.reduceEqDiff]; (try with_reducible exact rfl))); (· (simp only [go_sem, reduceIte, Nat.reduceEqDiff]; (try with_reducible exact rfl)))) | ((with_reducible apply Run.call); (· (simp only [go_sem, reduceIte, Nat.reduceEqDiff]; (try with_reducible exact rfl))); (· (simp only [go_sem, reduceIte, Nat.reduceEqDiff]; (try with_reducible exact rfl)))) | ((with_reducible apply Run.callY); (· (simp only [go_sem, reduceIte, Nat.reduceEqDiff]; (try with_reducible exact rfl))); (· (simp only [go_sem, reduceIte, Nat.reduceEqDiff]; (try with_reducible exact rfl))); (· (simp only [go_sem, reduceIte, Nat.reduceEqDiff]; (try with_reducible exact rfl)))) | ((with_reducible apply RunP.callY); (· (simp only [go_sem, reduceIte, Nat.reduceEqDiff]; (try with_reducible exact rfl))); (· (simp only [go_sem, reduceIte, Nat.reduceEqDiff]; (try with_reducible exact rfl))); (· (simp only [go_sem, reduceIte, Nat.reduceEqDiff]; (try with_reducible exact rfl)))) | ((with_reducible apply Run.call0); (· (simp only [go_sem, reduceIte, Nat.reduceEqDiff]; (try with_reducible exact rfl))); (· (simp only [go_sem, reduceIte, Nat.reduceEqDiff]; (try with_reducible exact rfl)))))
        refine sound_use (pieces_c (x0.at s) s') [] rfl (by decide) (by simp [-List.map_map, embAt, nm, rn_rw, rn_ro, rn_map, rn_iter, rn_dead, renL, Val.ren, ev5, Pk.at]) (by simp [-List.map_map, wfAll, wn_rw, wn_ro, wn_map, wn_iter, wn_dead, wfL, Val.wf, ev5, Pk.at]) (by simp [-List.map_map, Val.wf, wfL, ev5, Pk.at]) (by simp [-List.map_map, Val.ren, renL, nm, ev5, Pk.at]) ?_
        rintro v C' ⟨rfl, rfl⟩
        simp only [merge, place, after, nm, MG, Val.ren, renL, rn_rw, rn_ro, rn_map, rn_iter, rn_dead, reduceIte, Nat.reduceLT, Nat.reduceAdd, Nat.reduceSub, Nat.lt_irrefl, Nat.zero_lt_one, Nat.zero_lt_succ, ev5, Pk.at]
        repeat (first
    | ((first | (with_reducible first | apply Aa | apply Ab | apply Ac | apply Ad | apply Ae | apply Af | apply Na | apply Nb) | ((with_reducible first | apply Ag | apply Ah | apply Nc); · (simp only [go_sem, reduceIte, Nat.reduceEqDiff]; (try with_reducible exact rfl)))); · (simp only [go_sem, Int.reduceBEq, Int.reduceBNe, Int.reduceLT, Int.reduceLE, Int.reduceAdd, Int.reduceSub, Int.reduceToNat, reduceIte, Nat.reduceEqDiff, Nat.reduceAdd, Nat.reduceMul, Nat.reduceLeDiff, Nat.reduceSub, reduceCtorEq]; (try simp (disch := omega) only [OM, mn_lo, mn_hi, mx_lo, mx_hi, if_yes, if_no, Option.map_some]); (try with_reducible exact rfl)))
    | ((with_reducible first | apply Ba | apply Bb | apply Bc | apply Bd | apply Be | apply Nd); · (simp only [go_sem, reduceIte, Nat.reduceEqDiff]; (try with_reducible exact rfl))) | ((with_reducible first | apply Ca | apply Cb | apply Cc | apply Cd | apply Ce | apply Ne); · (simp only [go_sem, reduceIte, Nat.reduceEqDiff]; (try with_reducible exact rfl)))
    | ((with_reducible first | apply Dg | apply Dh); (· decide +kernel); (· (simp only [inOrd, List.getElem?_cons_succ, List.getElem?_cons_zero]; exact rfl)))
    | ((with_reducible first | apply De | apply Df); (· decide +kernel); (· (simp only [inOrd, List.getElem?_cons_succ, List.getElem?_cons_zero]; exact rfl)))
    | (with_reducible first | apply Ea | apply Eb | apply Ec | apply Ed | apply Ee | apply Ef | apply Eg | apply Eh | apply Ei | apply Ej | apply Ek | apply El | apply Em | apply En | apply Eo) | ((with_reducible apply Ep); · rfl))
        refine ei_few [(2, .p 1 0), (4, .p 2 0), (5, .p 3 0), (6, .p 4 0), (9, .p 5 0), (57, .fn (.func 33) [] [.p 6 0, .p 7 0])] (by simp [Env.get]) ?_
        refine ei_rf rfl ?_
        intro asg body ha hb hfa hfb hps
        refine sound_funcE Try.func33 c33 rfl (by simp) ?_
        simp only [e33, List.length_cons, List.length_nil, List.nil_append, List.cons_append, Nat.reduceAdd]
        have hlen : l.length ≤ 65536 := by omega
        have hall : l = pcs (x0.at s) s' → jn l z = some (x0.at s) := fun h => by rw [hjn, if_pos ⟨hz, h⟩]
        have hnot : l ≠ pcs (x0.at s) s' → jn l z = none := fun h => by rw [hjn, if_neg (fun q => h q.2)]
        clear hjn hpc hsum
        have h0 : pcs (x0.at s) s' = l.take 0 ++ (lens s s').map (x0.at s).at := by simp [pcs, Pk.at]
        generalize hp : x0.at s = p at *
        have hcell : [Val.i .u64 x0.1, .i .u64 x0.2.1, .i .i64 s, .i .u8 x0.2.2.2.1, .i .u64 x0.2.2.2.2] = [Val.i .u64 p.1, .i .u64 p.2.1, .i .i64 p.2.2.1, .i .u8 p.2.2.2.1, .i .u64 p.2.2.2.2] := by rw [← hp]; rfl
        have hps2 : p.2.2.1 = s := by rw [← hp]; rfl
        simp only [hcell]
        repeat (first
    | ((first | (with_reducible first | apply Aa | apply Ab | apply Ac | apply Ad | apply Ae | apply Af | apply Na | apply Nb) | ((with_reducible first | apply Ag | apply Ah | apply Nc); · (simp only [go_sem, reduceIte, Nat.reduceEqDiff]; (try with_reducible exact rfl)))); · (simp only [go_sem, Int.reduceBEq, Int.reduceBNe, Int.reduceLT, Int.reduceLE, Int.reduceAdd, Int.reduceSub, Int.reduceToNat, reduceIte, Nat.reduceEqDiff, Nat.reduceAdd, Nat.reduceMul, Nat.reduceLeDiff, Nat.reduceSub, reduceCtorEq]; (try simp (disch := omega) only [OM, mn_lo, mn_hi, mx_lo, mx_hi, if_yes, if_no, Option.map_some]); (try with_reducible exact rfl)))
    | ((with_reducible first | apply Ba | apply Bb | apply Bc | apply Bd | apply Be | apply Nd); · (simp only [go_sem, reduceIte, Nat.reduceEqDiff]; (try with_reducible exact rfl))) | ((with_reducible first | apply Ca | apply Cb | apply Cc | apply Cd | apply Ce | apply Ne); · (simp only [go_sem, reduceIte, Nat.reduceEqDiff]; (try with_reducible exact rfl)))
    | ((with_reducible first | apply Dg | apply Dh); (· decide +kernel); (· (simp only [inOrd, List.getElem?_cons_succ, List.getElem?_cons_zero]; exact rfl)))
    | ((with_reducible first | apply De | apply Df); (· decide +kernel); (· (simp only [inOrd, List.getElem?_cons_succ, List.getElem?_cons_zero]; exact rfl)))
    | (with_reducible first | apply Ea | apply Eb | apply Ec | apply Ed | apply Ee | apply Ef | apply Eg | apply Eh | apply Ei | apply Ej | apply Ek | apply El | apply Em | apply En | apply Eo) | ((with_reducible apply Ep); · rfl))
        refine ei_loop (Brw l p s' asg body) (n := s.toNat) ?_ ?_
        · refine ⟨0, s, rfl, by omega, by omega, h0, ?_⟩
          refine anew [0, 1, 2, 3, 4, 5, 6, 7, 8] (by simp [rn_loop, wn_loop, ev5_ren, ev5_wf, ev5, hps2, nc0] <;> fail) (by decide) (by simp [-List.map_map, embAt, nm, rn_rw, rn_ro, rn_map, rn_iter, rn_dead, renL, Val.ren, rn_loop, wn_loop, ev5_ren, ev5_wf, ev5, hps2, nc0]) (by simp [-List.map_map, wfAll, wn_rw, wn_ro, wn_map, wn_iter, wn_dead, wfL, Val.wf, rn_loop, wn_loop, ev5_ren, ev5_wf, ev5, hps2, nc0]) (by simp [rn_loop, wn_loop, ev5_ren, ev5_wf, ev5, hps2, nc0]) rfl (by simp [-List.map_map, Val.wf, wfL, rn_loop, wn_loop, ev5_ren, ev5_wf, ev5, hps2, nc0]) (by simp [-List.map_map, Env.get, Val.ren, renL, nm, initEnv, rn_loop, wn_loop, ev5_ren, ev5_wf, ev5, hps2, nc0])
        · rintro n ρ H ⟨k, r, rfl, hr2, hk, hd, han⟩
          refine ei_anewS han ?_
          clear han
          simp only [ev5]
          by_cases hr : r > 0
          · obtain ⟨q, hq⟩ : ∃ q, q = if r ≤ s' then r else s' := ⟨_, rfl⟩
            have hmin2 : mxs true (.i .i64 r) [.i .i64 s'] = some (.i .i64 q) := by
              split at hq
              · subst hq; exact mn_lo (by omega)
              · subst hq; exact mn_hi (by omega)
            rw [lens_pos hs1 hr, ← hq, List.map_cons] at hd
            repeat (first
    | ((first | (with_reducible first | apply Aa | apply Ab | apply Ac | apply Ad | apply Ae | apply Af | apply Na | apply Nb) | ((with_reducible first | apply Ag | apply Ah | apply Nc); · (simp only [go_sem, reduceIte, Nat.reduceEqDiff, hr, hmin2]; (try with_reducible exact rfl)))); · (simp only [go_sem, Int.reduceBEq, Int.reduceBNe, Int.reduceLT, Int.reduceLE, Int.reduceAdd, Int.reduceSub, Int.reduceToNat, reduceIte, Nat.reduceEqDiff, Nat.reduceAdd, Nat.reduceMul, Nat.reduceLeDiff, Nat.reduceSub, reduceCtorEq, hr, hmin2]; (try simp (disch := omega) only [OM, mn_lo, mn_hi, mx_lo, mx_hi, if_yes, if_no, Option.map_some, hr, hmin2]); (try with_reducible exact rfl)))
    | ((with_reducible first | apply Ba | apply Bb | apply Bc | apply Bd | apply Be | apply Nd); · (simp only [go_sem, reduceIte, Nat.reduceEqDiff, hr, hmin2]; (try with_reducible exact rfl))) | ((with_reducible first | apply Ca | apply Cb | apply Cc | apply Cd | apply Ce | apply Ne); · (simp only [go_sem, reduceIte, Nat.reduceEqDiff, hr, hmin2]; (try with_reducible exact rfl)))
    | ((with_reducible first | apply Dg | apply Dh); (· decide +kernel); (· (simp only [inOrd, List.getElem?_cons_succ, List.getElem?_cons_zero]; exact rfl)))
    | ((with_reducible first | apply De | apply Df); (· decide +kernel); (· (simp only [inOrd, List.getElem?_cons_succ, List.getElem?_cons_zero]; exact rfl)))
    | (with_reducible first | apply Ea | apply Eb | apply Ec | apply Ed | apply Ee | apply Ef | apply Eg | apply Eh | apply Ei | apply Ej | apply Ek | apply El | apply Em | apply En | apply Eo) | ((with_reducible apply Ep); · rfl))
            ((with_reducible apply Run.yld); (· (simp only [go_sem, reduceIte, Nat.reduceEqDiff]; (try with_reducible exact rfl))); (· (simp only [go_sem, reduceIte, Nat.reduceEqDiff]; (try with_reducible exact rfl))))
            refine yield_run rfl ha hb hfa hfb hps rfl (by simp only [bindEnv]; exact rfl) ?_
            repeat (first
    | ((first | (with_reducible first | apply Aa | apply Ab | apply Ac | apply Ad | apply Ae | apply Af | apply Na | apply Nb) | ((with_reducible first | apply Ag | apply Ah | apply Nc); · (simp only [go_sem, reduceIte, Nat.reduceEqDiff]; (try with_reducible exact rfl)))); · (simp only [go_sem, Int.reduceBEq, Int.reduceBNe, Int.reduceLT, Int.reduceLE, Int.reduceAdd, Int.reduceSub, Int.reduceToNat, reduceIte, Nat.reduceEqDiff, Nat.reduceAdd, Nat.reduceMul, Nat.reduceLeDiff, Nat.reduceSub, reduceCtorEq]; (try simp (disch := omega) only [OM, mn_lo, mn_hi, mx_lo, mx_hi, if_yes, if_no, Option.map_some]); (try with_reducible exact rfl)))
    | ((with_reducible first | apply Ba | apply Bb | apply Bc | apply Bd | apply Be | apply Nd); · (simp only [go_sem, reduceIte, Nat.reduceEqDiff]; (try with_reducible exact rfl))) | ((with_reducible first | apply Ca | apply Cb | apply Cc | apply Cd | apply Ce | apply Ne); · (simp only [go_sem, reduceIte, Nat.reduceEqDiff]; (try with_reducible exact rfl)))
    | ((with_reducible first | apply Dg | apply Dh); (· decide +kernel); (· (simp only [inOrd, List.getElem?_cons_succ, List.getElem?_cons_zero]; exact rfl)))
    | ((with_reducible first | apply De | apply Df); (· decide +kernel); (· (simp only [inOrd, List.getElem?_cons_succ, List.getElem?_cons_zero]; exact rfl)))
    | (with_reducible first | apply Ea | apply Eb | apply Ec | apply Ed | apply Ee | apply Ef | apply Eg | apply Eh | apply Ei | apply Ej | apply Ek | apply El | apply Em | apply En | apply Eo) | ((with_reducible apply Ep); · rfl))
            refine ⟨rfl, ?_⟩
            simp only [List.set_cons_succ, List.set_cons_zero]
            by_cases hkl : k = l.length
            · have he2 : ((k : Int) == (l.length : Int)) = true := by simp [hkl]
              have hne2 : l ≠ pcs p s' := by
                intro h
                have := congrArg List.length (h.trans hd)
                simp at this
                omega
              repeat (first
    | ((first | (with_reducible first | apply Aa | apply Ab | apply Ac | apply Ad | apply Ae | apply Af | apply Na | apply Nb) | ((with_reducible first | apply Ag | apply Ah | apply Nc); · (simp only [go_sem, reduceIte, Nat.reduceEqDiff, he2]; (try with_reducible exact rfl)))); · (simp only [go_sem, Int.reduceBEq, Int.reduceBNe, Int.reduceLT, Int.reduceLE, Int.reduceAdd, Int.reduceSub, Int.reduceToNat, reduceIte, Nat.reduceEqDiff, Nat.reduceAdd, Nat.reduceMul, Nat.reduceLeDiff, Nat.reduceSub, reduceCtorEq, he2]; (try simp (disch := omega) only [OM, mn_lo, mn_hi, mx_lo, mx_hi, if_yes, if_no, Option.map_some, he2]); (try with_reducible exact rfl)))
    | ((with_reducible first | apply Ba | apply Bb | apply Bc | apply Bd | apply Be | apply Nd); · (simp only [go_sem, reduceIte, Nat.reduceEqDiff, he2]; (try with_reducible exact rfl))) | ((with_reducible first | apply Ca | apply Cb | apply Cc | apply Cd | apply Ce | apply Ne); · (simp only [go_sem, reduceIte, Nat.reduceEqDiff, he2]; (try with_reducible exact rfl)))
    | ((with_reducible first | apply Dg | apply Dh); (· decide +kernel); (· (simp only [inOrd, List.getElem?_cons_succ, List.getElem?_cons_zero]; exact rfl)))
    | ((with_reducible first | apply De | apply Df); (· decide +kernel); (· (simp only [inOrd, List.getElem?_cons_succ, List.getElem?_cons_zero]; exact rfl)))
    | (with_reducible first | apply Ea | apply Eb | apply Ec | apply Ed | apply Ee | apply Ef | apply Eg | apply Eh | apply Ei | apply Ej | apply Ek | apply El | apply Em | apply En | apply Eo) | ((with_reducible apply Ep); · rfl))
              refine ⟨rfl, ?_⟩
              simp only [List.set_cons_succ, List.set_cons_zero]
              repeat (first
    | ((first | (with_reducible first | apply Aa | apply Ab | apply Ac | apply Ad | apply Ae | apply Af | apply Na | apply Nb) | ((with_reducible first | apply Ag | apply Ah | apply Nc); · (simp only [go_sem, reduceIte, Nat.reduceEqDiff]; (try with_reducible exact rfl)))); · (simp only [go_sem, Int.reduceBEq, Int.reduceBNe, Int.reduceLT, Int.reduceLE, Int.reduceAdd, Int.reduceSub, Int.reduceToNat, reduceIte, Nat.reduceEqDiff, Nat.reduceAdd, Nat.reduceMul, Nat.reduceLeDiff, Nat.reduceSub, reduceCtorEq]; (try simp (disch := omega) only [OM, mn_lo, mn_hi, mx_lo, mx_hi, if_yes, if_no, Option.map_some]); (try with_reducible exact rfl)))
    | ((with_reducible first | apply Ba | apply Bb | apply Bc | apply Bd | apply Be | apply Nd); · (simp only [go_sem, reduceIte, Nat.reduceEqDiff]; (try with_reducible exact rfl))) | ((with_reducible first | apply Ca | apply Cb | apply Cc | apply Cd | apply Ce | apply Ne); · (simp only [go_sem, reduceIte, Nat.reduceEqDiff]; (try with_reducible exact rfl)))
    | ((with_reducible first | apply Dg | apply Dh); (· decide +kernel); (· (simp only [inOrd, List.getElem?_cons_succ, List.getElem?_cons_zero]; exact rfl)))
    | ((with_reducible first | apply De | apply Df); (· decide +kernel); (· (simp only [inOrd, List.getElem?_cons_succ, List.getElem?_cons_zero]; exact rfl)))
    | (with_reducible first | apply Ea | apply Eb | apply Ec | apply Ed | apply Ee | apply Ef | apply Eg | apply Eh | apply Ei | apply Ej | apply Ek | apply El | apply Em | apply En | apply Eo) | ((with_reducible apply Ep); · rfl))
              refine loopQ.mkR rfl (by decide) ?_
              simp only [List.set_cons_succ, List.set_cons_zero]
              repeat (first
    | ((first | (with_reducible first | apply Aa | apply Ab | apply Ac | apply Ad | apply Ae | apply Af | apply Na | apply Nb) | ((with_reducible first | apply Ag | apply Ah | apply Nc); · (simp only [go_sem, reduceIte, Nat.reduceEqDiff]; (try with_reducible exact rfl)))); · (simp only [go_sem, Int.reduceBEq, Int.reduceBNe, Int.reduceLT, Int.reduceLE, Int.reduceAdd, Int.reduceSub, Int.reduceToNat, reduceIte, Nat.reduceEqDiff, Nat.reduceAdd, Nat.reduceMul, Nat.reduceLeDiff, Nat.reduceSub, reduceCtorEq]; (try simp (disch := omega) only [OM, mn_lo, mn_hi, mx_lo, mx_hi, if_yes, if_no, Option.map_some]); (try with_reducible exact rfl)))
    | ((with_reducible first | apply Ba | apply Bb | apply Bc | apply Bd | apply Be | apply Nd); · (simp only [go_sem, reduceIte, Nat.reduceEqDiff]; (try with_reducible exact rfl))) | ((with_reducible first | apply Ca | apply Cb | apply Cc | apply Cd | apply Ce | apply Ne); · (simp only [go_sem, reduceIte, Nat.reduceEqDiff]; (try with_reducible exact rfl)))
    | ((with_reducible first | apply Dg | apply Dh); (· decide +kernel); (· (simp only [inOrd, List.getElem?_cons_succ, List.getElem?_cons_zero]; exact rfl)))
    | ((with_reducible first | apply De | apply Df); (· decide +kernel); (· (simp only [inOrd, List.getElem?_cons_succ, List.getElem?_cons_zero]; exact rfl)))
    | (with_reducible first | apply Ea | apply Eb | apply Ec | apply Ed | apply Ee | apply Ef | apply Eg | apply Eh | apply Ei | apply Ej | apply Ek | apply El | apply Em | apply En | apply Eo) | ((with_reducible apply Ep); · rfl))
              refine told [0] [.rw (l.flatMap ev5)] (jv none) (by simp [ev5_ren, ev5_wf, jv, zero5] <;> fail) (by decide) (by simp [-List.map_map, embAt, nm, rn_rw, rn_ro, rn_map, rn_iter, rn_dead, renL, Val.ren, ev5_ren, ev5_wf, jv, zero5]) (by simp [-List.map_map, wfAll, wn_rw, wn_ro, wn_map, wn_iter, wn_dead, wfL, Val.wf, ev5_ren, ev5_wf, jv, zero5]) (by simp [ev5_ren, ev5_wf, jv, zero5]) rfl (by simp [-List.map_map, Val.wf, wfL, ev5_ren, ev5_wf, jv, zero5]) (by simp [-List.map_map, Val.ren, renL, nm, ev5_ren, ev5_wf, jv, zero5]) ?_
              exact ⟨by rw [hnot hne2], rfl⟩
            · have he2 : ((k : Int) == (l.length : Int)) = false := by simp; omega
              have hkl' : k < l.length := by omega
              obtain ⟨y, hy⟩ : ∃ y, l[k]? = some y := ⟨_, List.getElem?_eq_getElem hkl'⟩
              have hya := ev5_at hy
              by_cases hxy : y = p.at q
              · have hdec : decide (y = p.at q) = true := decide_eq_true hxy
                repeat (first
    | ((first | (with_reducible first | apply Aa | apply Ab | apply Ac | apply Ad | apply Ae | apply Af | apply Na | apply Nb) | ((with_reducible first | apply Ag | apply Ah | apply Nc); · (simp only [go_sem, reduceIte, Nat.reduceEqDiff, he2, Int.toNat_natCast, ev5_flat, hya, ceqs_at, hdec]; (try with_reducible exact rfl)))); · (simp only [go_sem, Int.reduceBEq, Int.reduceBNe, Int.reduceLT, Int.reduceLE, Int.reduceAdd, Int.reduceSub, Int.reduceToNat, reduceIte, Nat.reduceEqDiff, Nat.reduceAdd, Nat.reduceMul, Nat.reduceLeDiff, Nat.reduceSub, reduceCtorEq, he2, Int.toNat_natCast, ev5_flat, hya, ceqs_at, hdec]; (try simp (disch := omega) only [OM, mn_lo, mn_hi, mx_lo, mx_hi, if_yes, if_no, Option.map_some, he2, Int.toNat_natCast, ev5_flat, hya, ceqs_at, hdec]); (try with_reducible exact rfl)))
    | ((with_reducible first | apply Ba | apply Bb | apply Bc | apply Bd | apply Be | apply Nd); · (simp only [go_sem, reduceIte, Nat.reduceEqDiff, he2, Int.toNat_natCast, ev5_flat, hya, ceqs_at, hdec]; (try with_reducible exact rfl))) | ((with_reducible first | apply Ca | apply Cb | apply Cc | apply Cd | apply Ce | apply Ne); · (simp only [go_sem, reduceIte, Nat.reduceEqDiff, he2, Int.toNat_natCast, ev5_flat, hya, ceqs_at, hdec]; (try with_reducible exact rfl)))
    | ((with_reducible first | apply Dg | apply Dh); (· decide +kernel); (· (simp only [inOrd, List.getElem?_cons_succ, List.getElem?_cons_zero]; exact rfl)))
    | ((with_reducible first | apply De | apply Df); (· decide +kernel); (· (simp only [inOrd, List.getElem?_cons_succ, List.getElem?_cons_zero]; exact rfl)))
    | (with_reducible first | apply Ea | apply Eb | apply Ec | apply Ed | apply Ee | apply Ef | apply Eg | apply Eh | apply Ei | apply Ej | apply Ek | apply El | apply Em | apply En | apply Eo) | ((with_reducible apply Ep); · rfl))
                refine ⟨rfl, ?_⟩
                simp only [List.set_cons_succ, List.set_cons_zero]
                repeat (first
    | ((first | (with_reducible first | apply Aa | apply Ab | apply Ac | apply Ad | apply Ae | apply Af | apply Na | apply Nb) | ((with_reducible first | apply Ag | apply Ah | apply Nc); · (simp only [go_sem, reduceIte, Nat.reduceEqDiff]; (try with_reducible exact rfl)))); · (simp only [go_sem, Int.reduceBEq, Int.reduceBNe, Int.reduceLT, Int.reduceLE, Int.reduceAdd, Int.reduceSub, Int.reduceToNat, reduceIte, Nat.reduceEqDiff, Nat.reduceAdd, Nat.reduceMul, Nat.reduceLeDiff, Nat.reduceSub, reduceCtorEq]; (try simp (disch := omega) only [OM, mn_lo, mn_hi, mx_lo, mx_hi, if_yes, if_no, Option.map_some]); (try with_reducible exact rfl)))
    | ((with_reducible first | apply Ba | apply Bb | apply Bc | apply Bd | apply Be | apply Nd); · (simp only [go_sem, reduceIte, Nat.reduceEqDiff]; (try with_reducible exact rfl))) | ((with_reducible first | apply Ca | apply Cb | apply Cc | apply Cd | apply Ce | apply Ne); · (simp only [go_sem, reduceIte, Nat.reduceEqDiff]; (try with_reducible exact rfl)))
    | ((with_reducible first | apply Dg | apply Dh); (· decide +kernel); (· (simp only [inOrd, List.getElem?_cons_succ, List.getElem?_cons_zero]; exact rfl)))
    | ((with_reducible first | apply De | apply Df); (· decide +kernel); (· (simp only [inOrd, List.getElem?_cons_succ, List.getElem?_cons_zero]; exact rfl)))
    | (with_reducible first | apply Ea | apply Eb | apply Ec | apply Ed | apply Ee | apply Ef | apply Eg | apply Eh | apply Ei | apply Ej | apply Ek | apply El | apply Em | apply En | apply Eo) | ((with_reducible apply Ep); · rfl))
                refine ⟨(r - s').toNat, by omega, k + 1, r - s', rfl, by omega, by omega, ?_, ?_⟩
                · rw [hd, List.take_add_one, hy, hxy]; simp
                refine anew [0, 1, 2, 3, 4, 5, 6, 7, 8] (by simp [rn_loop, wn_loop, ev5_ren, ev5_wf, ev5, nc0] <;> fail) (by decide) (by simp [-List.map_map, embAt, nm, rn_rw, rn_ro, rn_map, rn_iter, rn_dead, renL, Val.ren, rn_loop, wn_loop, ev5_ren, ev5_wf, ev5, nc0]) (by simp [-List.map_map, wfAll, wn_rw, wn_ro, wn_map, wn_iter, wn_dead, wfL, Val.wf, rn_loop, wn_loop, ev5_ren, ev5_wf, ev5, nc0]) (by simp [rn_loop, wn_loop, ev5_ren, ev5_wf, ev5, nc0]) rfl (by simp [-List.map_map, Val.wf, wfL, rn_loop, wn_loop, ev5_ren, ev5_wf, ev5, nc0]) (by simp [-List.map_map, Env.get, Val.ren, renL, nm, initEnv, rn_loop, wn_loop, ev5_ren, ev5_wf, ev5, nc0])
              · have hdec : decide (y = p.at q) = false := decide_eq_false hxy
                have hne2 : l ≠ pcs p s' := by
                  intro h
                  have h2 := h.trans hd
                  have h3 : l[k]? = some (p.at q) := by
                    rw [h2, List.getElem?_append_right (by simp; omega)]
                    simp [Nat.min_eq_left hk]
                  rw [hy] at h3
                  exact hxy (by simpa using h3)
                repeat (first
    | ((first | (with_reducible first | apply Aa | apply Ab | apply Ac | apply Ad | apply Ae | apply Af | apply Na | apply Nb) | ((with_reducible first | apply Ag | apply Ah | apply Nc); · (simp only [go_sem, reduceIte, Nat.reduceEqDiff, he2, Int.toNat_natCast, ev5_flat, hya, ceqs_at, hdec]; (try with_reducible exact rfl)))); · (simp only [go_sem, Int.reduceBEq, Int.reduceBNe, Int.reduceLT, Int.reduceLE, Int.reduceAdd, Int.reduceSub, Int.reduceToNat, reduceIte, Nat.reduceEqDiff, Nat.reduceAdd, Nat.reduceMul, Nat.reduceLeDiff, Nat.reduceSub, reduceCtorEq, he2, Int.toNat_natCast, ev5_flat, hya, ceqs_at, hdec]; (try simp (disch := omega) only [OM, mn_lo, mn_hi, mx_lo, mx_hi, if_yes, if_no, Option.map_some, he2, Int.toNat_natCast, ev5_flat, hya, ceqs_at, hdec]); (try with_reducible exact rfl)))
    | ((with_reducible first | apply Ba | apply Bb | apply Bc | apply Bd | apply Be | apply Nd); · (simp only [go_sem, reduceIte, Nat.reduceEqDiff, he2, Int.toNat_natCast, ev5_flat, hya, ceqs_at, hdec]; (try with_reducible exact rfl))) | ((with_reducible first | apply Ca | apply Cb | apply Cc | apply Cd | apply Ce | apply Ne); · (simp only [go_sem, reduceIte, Nat.reduceEqDiff, he2, Int.toNat_natCast, ev5_flat, hya, ceqs_at, hdec]; (try with_reducible exact rfl)))
    | ((with_reducible first | apply Dg | apply Dh); (· decide +kernel); (· (simp only [inOrd, List.getElem?_cons_succ, List.getElem?_cons_zero]; exact rfl)))
    | ((with_reducible first | apply De | apply Df); (· decide +kernel); (· (simp only [inOrd, List.getElem?_cons_succ, List.getElem?_cons_zero]; exact rfl)))
    | (with_reducible first | apply Ea | apply Eb | apply Ec | apply Ed | apply Ee | apply Ef | apply Eg | apply Eh | apply Ei | apply Ej | apply Ek | apply El | apply Em | apply En | apply Eo) | ((with_reducible apply Ep); · rfl))
                refine ⟨rfl, ?_⟩
                simp only [List.set_cons_succ, List.set_cons_zero]
                repeat (first
    | ((first | (with_reducible first | apply Aa | apply Ab | apply Ac | apply Ad | apply Ae | apply Af | apply Na | apply Nb) | ((with_reducible first | apply Ag | apply Ah | apply Nc); · (simp only [go_sem, reduceIte, Nat.reduceEqDiff]; (try with_reducible exact rfl)))); · (simp only [go_sem, Int.reduceBEq, Int.reduceBNe, Int.reduceLT, Int.reduceLE, Int.reduceAdd, Int.reduceSub, Int.reduceToNat, reduceIte, Nat.reduceEqDiff, Nat.reduceAdd, Nat.reduceMul, Nat.reduceLeDiff, Nat.reduceSub, reduceCtorEq]; (try simp (disch := omega) only [OM, mn_lo, mn_hi, mx_lo, mx_hi, if_yes, if_no, Option.map_some]); (try with_reducible exact rfl)))
    | ((with_reducible first | apply Ba | apply Bb | apply Bc | apply Bd | apply Be | apply Nd); · (simp only [go_sem, reduceIte, Nat.reduceEqDiff]; (try with_reducible exact rfl))) | ((with_reducible first | apply Ca | apply Cb | apply Cc | apply Cd | apply Ce | apply Ne); · (simp only [go_sem, reduceIte, Nat.reduceEqDiff]; (try with_reducible exact rfl)))
    | ((with_reducible first | apply Dg | apply Dh); (· decide +kernel); (· (simp only [inOrd, List.getElem?_cons_succ, List.getElem?_cons_zero]; exact rfl)))
    | ((with_reducible first | apply De | apply Df); (· decide +kernel); (· (simp only [inOrd, List.getElem?_cons_succ, List.getElem?_cons_zero]; exact rfl)))
    | (with_reducible first | apply Ea | apply Eb | apply Ec | apply Ed | apply Ee | apply Ef | apply Eg | apply Eh | apply Ei | apply Ej | apply Ek | apply El | apply Em | apply En | apply Eo) | ((with_reducible apply Ep); · rfl))
                refine loopQ.mkR rfl (by decide) ?_
                simp only [List.set_cons_succ, List.set_cons_zero]
                repeat (first
    | ((first | (with_reducible first | apply Aa | apply Ab | apply Ac | apply Ad | apply Ae | apply Af | apply Na | apply Nb) | ((with_reducible first | apply Ag | apply Ah | apply Nc); · (simp only [go_sem, reduceIte, Nat.reduceEqDiff]; (try with_reducible exact rfl)))); · (simp only [go_sem, Int.reduceBEq, Int.reduceBNe, Int.reduceLT, Int.reduceLE, Int.reduceAdd, Int.reduceSub, Int.reduceToNat, reduceIte, Nat.reduceEqDiff, Nat.reduceAdd, Nat.reduceMul, Nat.reduceLeDiff, Nat.reduceSub, reduceCtorEq]; (try simp (disch := omega) only [OM, mn_lo, mn_hi, mx_lo, mx_hi, if_yes, if_no, Option.map_some]); (try with_reducible exact rfl)))
    | ((with_reducible first | apply Ba | apply Bb | apply Bc | apply Bd | apply Be | apply Nd); · (simp only [go_sem, reduceIte, Nat.reduceEqDiff]; (try with_reducible exact rfl))) | ((with_reducible first | apply Ca | apply Cb | apply Cc | apply Cd | apply Ce | apply Ne); · (simp only [go_sem, reduceIte, Nat.reduceEqDiff]; (try with_reducible exact rfl)))
    | ((with_reducible first | apply Dg | apply Dh); (· decide +kernel); (· (simp only [inOrd, List.getElem?_cons_succ, List.getElem?_cons_zero]; exact rfl)))
    | ((with_reducible first | apply De | apply Df); (· decide +kernel); (· (simp only [inOrd, List.getElem?_cons_succ, List.getElem?_cons_zero]; exact rfl)))
    | (with_reducible first | apply Ea | apply Eb | apply Ec | apply Ed | apply Ee | apply Ef | apply Eg | apply Eh | apply Ei | apply Ej | apply Ek | apply El | apply Em | apply En | apply Eo) | ((with_reducible apply Ep); · rfl))
                refine told [0] [.rw (l.flatMap ev5)] (jv none) (by simp [ev5_ren, ev5_wf, jv, zero5] <;> fail) (by decide) (by simp [-List.map_map, embAt, nm, rn_rw, rn_ro, rn_map, rn_iter, rn_dead, renL, Val.ren, ev5_ren, ev5_wf, jv, zero5]) (by simp [-List.map_map, wfAll, wn_rw, wn_ro, wn_map, wn_iter, wn_dead, wfL, Val.wf, ev5_ren, ev5_wf, jv, zero5]) (by simp [ev5_ren, ev5_wf, jv, zero5]) rfl (by simp [-List.map_map, Val.wf, wfL, ev5_ren, ev5_wf, jv, zero5]) (by simp [-List.map_map, Val.ren, renL, nm, ev5_ren, ev5_wf, jv, zero5]) ?_
                exact ⟨by rw [hnot hne2], rfl⟩
          · rw [lens_neg (n := r) (by omega), List.map_nil, List.append_nil] at hd
            repeat (first
    | ((first | (with_reducible first | apply Aa | apply Ab | apply Ac | apply Ad | apply Ae | apply Af | apply Na | apply Nb) | ((with_reducible first | apply Ag | apply Ah | apply Nc); · (simp only [go_sem, reduceIte, Nat.reduceEqDiff, hr]; (try with_reducible exact rfl)))); · (simp only [go_sem, Int.reduceBEq, Int.reduceBNe, Int.reduceLT, Int.reduceLE, Int.reduceAdd, Int.reduceSub, Int.reduceToNat, reduceIte, Nat.reduceEqDiff, Nat.reduceAdd, Nat.reduceMul, Nat.reduceLeDiff, Nat.reduceSub, reduceCtorEq, hr]; (try simp (disch := omega) only [OM, mn_lo, mn_hi, mx_lo, mx_hi, if_yes, if_no, Option.map_some, hr]); (try with_reducible exact rfl)))
    | ((with_reducible first | apply Ba | apply Bb | apply Bc | apply Bd | apply Be | apply Nd); · (simp only [go_sem, reduceIte, Nat.reduceEqDiff, hr]; (try with_reducible exact rfl))) | ((with_reducible first | apply Ca | apply Cb | apply Cc | apply Cd | apply Ce | apply Ne); · (simp only [go_sem, reduceIte, Nat.reduceEqDiff, hr]; (try with_reducible exact rfl)))
    | ((with_reducible first | apply Dg | apply Dh); (· decide +kernel); (· (simp only [inOrd, List.getElem?_cons_succ, List.getElem?_cons_zero]; exact rfl)))
    | ((with_reducible first | apply De | apply Df); (· decide +kernel); (· (simp only [inOrd, List.getElem?_cons_succ, List.getElem?_cons_zero]; exact rfl)))
    | (with_reducible first | apply Ea | apply Eb | apply Ec | apply Ed | apply Ee | apply Ef | apply Eg | apply Eh | apply Ei | apply Ej | apply Ek | apply El | apply Em | apply En | apply Eo) | ((with_reducible apply Ep); · rfl))
            refine loopQ.mk rfl (by decide) ?_
            simp only [List.set_cons_succ, List.set_cons_zero]
            by_cases hkl : (k : Int) < l.length
            · have hne2 : l ≠ pcs p s' := by
                intro h
                have := congrArg List.length (h.trans hd)
                simp at this
                omega
              repeat (first
    | ((first | (with_reducible first | apply Aa | apply Ab | apply Ac | apply Ad | apply Ae | apply Af | apply Na | apply Nb) | ((with_reducible first | apply Ag | apply Ah | apply Nc); · (simp only [go_sem, reduceIte, Nat.reduceEqDiff, hkl]; (try with_reducible exact rfl)))); · (simp only [go_sem, Int.reduceBEq, Int.reduceBNe, Int.reduceLT, Int.reduceLE, Int.reduceAdd, Int.reduceSub, Int.reduceToNat, reduceIte, Nat.reduceEqDiff, Nat.reduceAdd, Nat.reduceMul, Nat.reduceLeDiff, Nat.reduceSub, reduceCtorEq, hkl]; (try simp (disch := omega) only [OM, mn_lo, mn_hi, mx_lo, mx_hi, if_yes, if_no, Option.map_some, hkl]); (try with_reducible exact rfl)))
    | ((with_reducible first | apply Ba | apply Bb | apply Bc | apply Bd | apply Be | apply Nd); · (simp only [go_sem, reduceIte, Nat.reduceEqDiff, hkl]; (try with_reducible exact rfl))) | ((with_reducible first | apply Ca | apply Cb | apply Cc | apply Cd | apply Ce | apply Ne); · (simp only [go_sem, reduceIte, Nat.reduceEqDiff, hkl]; (try with_reducible exact rfl)))
    | ((with_reducible first | apply Dg | apply Dh); (· decide +kernel); (· (simp only [inOrd, List.getElem?_cons_succ, List.getElem?_cons_zero]; exact rfl)))
    | ((with_reducible first | apply De | apply Df); (· decide +kernel); (· (simp only [inOrd, List.getElem?_cons_succ, List.getElem?_cons_zero]; exact rfl)))
    | (with_reducible first | apply Ea | apply Eb | apply Ec | apply Ed | apply Ee | apply Ef | apply Eg | apply Eh | apply Ei | apply Ej | apply Ek | apply El | apply Em | apply En | apply Eo) | ((with_reducible apply Ep); · rfl))
              refine told [0] [.rw (l.flatMap ev5)] (jv none) (by simp [ev5_ren, ev5_wf, jv, zero5] <;> fail) (by decide) (by simp [-List.map_map, embAt, nm, rn_rw, rn_ro, rn_map, rn_iter, rn_dead, renL, Val.ren, ev5_ren, ev5_wf, jv, zero5]) (by simp [-List.map_map, wfAll, wn_rw, wn_ro, wn_map, wn_iter, wn_dead, wfL, Val.wf, ev5_ren, ev5_wf, jv, zero5]) (by simp [ev5_ren, ev5_wf, jv, zero5]) rfl (by simp [-List.map_map, Val.wf, wfL, ev5_ren, ev5_wf, jv, zero5]) (by simp [-List.map_map, Val.ren, renL, nm, ev5_ren, ev5_wf, jv, zero5]) ?_
              exact ⟨by rw [hnot hne2], rfl⟩
            · have heq : l = pcs p s' := by rw [hd, List.take_of_length_le (by omega)]
              repeat (first
    | ((first | (with_reducible first | apply Aa | apply Ab | apply Ac | apply Ad | apply Ae | apply Af | apply Na | apply Nb) | ((with_reducible first | apply Ag | apply Ah | apply Nc); · (simp only [go_sem, reduceIte, Nat.reduceEqDiff, hkl]; (try with_reducible exact rfl)))); · (simp only [go_sem, Int.reduceBEq, Int.reduceBNe, Int.reduceLT, Int.reduceLE, Int.reduceAdd, Int.reduceSub, Int.reduceToNat, reduceIte, Nat.reduceEqDiff, Nat.reduceAdd, Nat.reduceMul, Nat.reduceLeDiff, Nat.reduceSub, reduceCtorEq, hkl]; (try simp (disch := omega) only [OM, mn_lo, mn_hi, mx_lo, mx_hi, if_yes, if_no, Option.map_some, hkl]); (try with_reducible exact rfl)))
    | ((with_reducible first | apply Ba | apply Bb | apply Bc | apply Bd | apply Be | apply Nd); · (simp only [go_sem, reduceIte, Nat.reduceEqDiff, hkl]; (try with_reducible exact rfl))) | ((with_reducible first | apply Ca | apply Cb | apply Cc | apply Cd | apply Ce | apply Ne); · (simp only [go_sem, reduceIte, Nat.reduceEqDiff, hkl]; (try with_reducible exact rfl)))
    | ((with_reducible first | apply Dg | apply Dh); (· decide +kernel); (· (simp only [inOrd, List.getElem?_cons_succ, List.getElem?_cons_zero]; exact rfl)))
    | ((with_reducible first | apply De | apply Df); (· decide +kernel); (· (simp only [inOrd, List.getElem?_cons_succ, List.getElem?_cons_zero]; exact rfl)))
    | (with_reducible first | apply Ea | apply Eb | apply Ec | apply Ed | apply Ee | apply Ef | apply Eg | apply Eh | apply Ei | apply Ej | apply Ek | apply El | apply Em | apply En | apply Eo) | ((with_reducible apply Ep); · rfl))
              refine told [0] [.rw (l.flatMap ev5)] (jv (some p)) (by simp [ev5_ren, ev5_wf, jv, ev5] <;> fail) (by decide) (by simp [-List.map_map, embAt, nm, rn_rw, rn_ro, rn_map, rn_iter, rn_dead, renL, Val.ren, ev5_ren, ev5_wf, jv, ev5]) (by simp [-List.map_map, wfAll, wn_rw, wn_ro, wn_map, wn_iter, wn_dead, wfL, Val.wf, ev5_ren, ev5_wf, jv, ev5]) (by simp [ev5_ren, ev5_wf, jv, ev5]) rfl (by simp [-List.map_map, Val.wf, wfL, ev5_ren, ev5_wf, jv, ev5]) (by simp [-List.map_map, Val.ren, renL, nm, ev5_ren, ev5_wf, jv, ev5]) ?_
              exact ⟨by rw [hall heq], rfl⟩
      · rw [show decide (1 ≤ (x0.at s).2.2.1 ∧ (x0.at s).2.2.1 ≤ 65536 ∧ 1 ≤ z) = false from decide_eq_false fun h => hz h.2.2]
        rw [if_neg (by omega)] at hjn
        repeat (first
    | ((first | (with_reducible first | apply Aa | apply Ab | apply Ac | apply Ad | apply Ae | apply Af | apply Na | apply Nb) | ((with_reducible first | apply Ag | apply Ah | apply Nc); · (simp only [go_sem, reduceIte, Nat.reduceEqDiff]; (try with_reducible exact rfl)))); · (simp only [go_sem, Int.reduceBEq, Int.reduceBNe, Int.reduceLT, Int.reduceLE, Int.reduceAdd, Int.reduceSub, Int.reduceToNat, reduceIte, Nat.reduceEqDiff, Nat.reduceAdd, Nat.reduceMul, Nat.reduceLeDiff, Nat.reduceSub, reduceCtorEq]; (try simp (disch := omega) only [OM, mn_lo, mn_hi, mx_lo, mx_hi, if_yes, if_no, Option.map_some]); (try with_reducible exact rfl)))
    | ((with_reducible first | apply Ba | apply Bb | apply Bc | apply Bd | apply Be | apply Nd); · (simp only [go_sem, reduceIte, Nat.reduceEqDiff]; (try with_reducible exact rfl))) | ((with_reducible first | apply Ca | apply Cb | apply Cc | apply Cd | apply Ce | apply Ne); · (simp only [go_sem, reduceIte, Nat.reduceEqDiff]; (try with_reducible exact rfl)))
    | ((with_reducible first | apply Dg | apply Dh); (· decide +kernel); (· (simp only [inOrd, List.getElem?_cons_succ, List.getElem?_cons_zero]; exact rfl)))
    | ((with_reducible first | apply De | apply Df); (· decide +kernel); (· (simp only [inOrd, List.getElem?_cons_succ, List.getElem?_cons_zero]; exact rfl)))
    | (with_reducible first | apply Ea | apply Eb | apply Ec | apply Ed | apply Ee | apply Ef | apply Eg | apply Eh | apply Ei | apply Ej | apply Ek | apply El | apply Em | apply En | apply Eo) | ((with_reducible apply Ep); · rfl))
        refine told [0] [.rw (l.flatMap ev5)] (jv none) (by simp [ev5_ren, ev5_wf, jv, zero5] <;> fail) (by decide) (by simp [-List.map_map, embAt, nm, rn_rw, rn_ro, rn_map, rn_iter, rn_dead, renL, Val.ren, ev5_ren, ev5_wf, jv, zero5]) (by simp [-List.map_map, wfAll, wn_rw, wn_ro, wn_map, wn_iter, wn_dead, wfL, Val.wf, ev5_ren, ev5_wf, jv, zero5]) (by simp [ev5_ren, ev5_wf, jv, zero5]) rfl (by simp [-List.map_map, Val.wf, wfL, ev5_ren, ev5_wf, jv, zero5]) (by simp [-List.map_map, Val.ren, renL, nm, ev5_ren, ev5_wf, jv, zero5]) ?_
        exact ⟨by rw [hjn], rfl⟩

theorem join_nil (z : Int) (H : Heap) : SoundCall Try.prog 18 [.nils, .i .i64 z] H (fun v H' => v = jv (jn [] z) ∧ H' = H) := by
  refine sound_pure rfl (by rintro v rfl; rfl) ?_ H
  refine sound_func Try.func18 c18 rfl (by simp) ?_
  simp only [e18]
  repeat (first
    | ((first | (with_reducible first | apply Aa | apply Ab | apply Ac | apply Ad | apply Ae | apply Af | apply Na | apply Nb) | ((with_reducible first | apply Ag | apply Ah | apply Nc); · (simp only [go_sem, reduceIte, Nat.reduceEqDiff]; (try with_reducible exact rfl)))); · (simp only [go_sem, Int.reduceBEq, Int.reduceBNe, Int.reduceLT, Int.reduceLE, Int.reduceAdd, Int.reduceSub, Int.reduceToNat, reduceIte, Nat.reduceEqDiff, Nat.reduceAdd, Nat.reduceMul, Nat.reduceLeDiff, Nat.reduceSub, reduceCtorEq]; (try simp (disch := omega) only [OM, mn_lo, mn_hi, mx_lo, mx_hi, if_yes, if_no, Option.map_some]); (try with_reducible exact rfl)))
    | ((with_reducible first | apply Ba | apply Bb | apply Bc | apply Bd | apply Be | apply Nd); · (simp only [go_sem, reduceIte, Nat.reduceEqDiff]; (try with_reducible exact rfl))) | ((with_reducible first | apply Ca | apply Cb | apply Cc | apply Cd | apply Ce | apply Ne); · (simp only [go_sem, reduceIte, Nat.reduceEqDiff]; (try with_reducible exact rfl)))
    | ((with_reducible first | apply Dg | apply Dh); (· decide +kernel); (· (simp only [inOrd, List.getElem?_cons_succ, List.getElem?_cons_zero]; exact rfl)))
    | ((with_reducible first | apply De | apply Df); (· decide +kernel); (· (simp only [inOrd, List.getElem?_cons_succ, List.getElem?_cons_zero]; exact rfl)))
    | (with_reducible first | apply Ea | apply Eb | apply Ec | apply Ed | apply Ee | apply Ef | apply Eg | apply Eh | apply Ei | apply Ej | apply Ek | apply El | apply Em | apply En | apply Eo) | ((with_reducible apply Ep); · rfl))
  rfl
end Go.Proofs.Ytnmkbnifgmeloaa.IR
