/- This text of a proof shows: what the document's functions of a ring come to. -/
import Derived.Test.YthpcdpnolmacpaaG24
set_option linter.unusedVariables false
set_option linter.unusedSimpArgs false
set_option linter.constructorNameAsVariable false
namespace Go.Proofs.Ythpcdpnolmacpaa.IR
open Go Go.Proofs.Ythpcdpnolmacpaa.Ev Go.Proofs.Ythpcdpnolmacpaa.Ext Go.Proofs.YthpcdpnolmacpaaW.PrintWords
set_option linter.unusedSimpArgs false
set_option linter.unusedVariables false
set_option maxHeartbeats 4000000
attribute [local go_sem] skipV nc0 nc1 nc2 nc3 bne_self_eq_false decide_true decide_false IOp.step Opd.ev Env.get initEnv Val.cells? Val.one List.all_cons List.all_nil Bool.and_true Bool.and_self Bool.true_and bin ints eqv Val.kindNo lenNo_s lenNo_nils lenNo_sl lenNo_nilm lenNo_m lenOf_s lenOf_nils lenOf_sl lenOf_nilm unary mxs mx2 partsOf padTo List.foldl_cons List.foldl_nil wr_nil wr_step wr_zero List.set_cons_zero List.set_cons_succ List.map_cons List.map_nil z1 z2 Nat.succ_ne_zero List.length_cons List.length_nil List.cons_append List.nil_append List.append_nil List.getElem?_cons_zero List.getElem?_cons_succ List.getElem?_nil Option.map_some Option.map_none Nat.zero_add Nat.add_zero List.drop_zero List.drop_succ_cons List.take_succ_cons List.take_zero List.take_nil and_self and_true true_and Nat.le_refl Bool.not_true Bool.not_false Option.getD_some window Val.slen bnd resV resL RV.val Bool.false_eq_true BEq.rfl Bool.true_beq Bool.false_beq beq_true beq_false mk_one ite_true ite_false eqc ceqs ceq
theorem radd_c (a b : Int) (ha : U a) (hb : U b) (H : Heap) : SoundCall Try.prog 34 [.i .u64 a, .i .u64 b] H (fun v H' => v = .i .u64 (sat (a + b)) ∧ H' = H) :=
  sound_ints (fun args w => by rfl) (l := [(.u64, a), (.u64, b)]) (fun σ => .i _ _) (fun w => (sandglassref01_Add.calls a b (sat (a + b)) w (by unfold sandglassref01_Add.f sat_Add.f; rw [if_pos ⟨ha, hb⟩])).mono fun e w' h => ⟨h.1, drawn_heap h.2⟩) H
theorem rtime_c (a b : Int) (ha : U a) (hb : U b) (H : Heap) : SoundCall Try.prog 35 [.i .u64 a, .i .u64 b] H (fun v H' => v = .i .u64 (tm a b) ∧ H' = H) :=
  sound_ints (fun args w => by rfl) (l := [(.u64, a), (.u64, b)]) (fun σ => .i _ _) (fun w => (sandglassref02_Time.calls a b (tm a b) w (by unfold sandglassref02_Time.f; rw [if_pos ⟨ha, hb⟩])).mono fun e w' h => ⟨h.1, drawn_heap h.2⟩) H
/-- The document's ring: what was ever put, how many of these are gone, the clock, whether it is shut. -/
structure RR where
  room : Int
  rate : Int
  A : List (Int × Int × Int)
  gone : Int
  clock : Int
  shut : Bool
def RR.cells (x : RR) (v : Val) : List Val := [.i .i64 x.room, .i .u64 x.rate, v, .i .i64 x.gone, .i .u64 x.clock, .b x.shut]
def stepE (rate e : Int) (x : Int × Int × Int) : Int := sat ((if x.2.2 > e then x.2.2 else e) + tm x.2.1 rate)
def endL (rate e : Int) (A : List (Int × Int × Int)) : Int := A.foldl (stepE rate) e
structure RR.ok (x : RR) : Prop where
  rate : U x.rate
  clock : U x.clock
  len : x.A.length ≤ 80
  all : ∀ y ∈ x.A, 1 ≤ y.2.1 ∧ y.2.1 ≤ 65536 ∧ U y.2.2
  g0 : 0 ≤ x.gone
  g1 : x.gone ≤ x.A.length
  room0 : 1 ≤ x.room
  room1 : x.room ≤ 4096
theorem U_stepE {rate e : Int} {x : Int × Int × Int} (hr : U rate) (he : U e) (hx : 0 ≤ x.2.1) (hc : U x.2.2) : U (stepE rate e x) := by
  have h1 := (U_tm hx hr).1
  have h2 := he.1
  have h3 := hc.1
  refine U_sat' ?_
  split <;> omega
theorem U_endL {rate : Int} (hr : U rate) : ∀ {A : List (Int × Int × Int)} {e : Int}, U e → (∀ y ∈ A, 1 ≤ y.2.1 ∧ y.2.1 ≤ 65536 ∧ U y.2.2) → U (endL rate e A)
  | [], _, he, _ => he
  | x :: A, e, he, h => U_endL (A := A) hr (U_stepE hr he (by have := (h x (by simp)).1; omega) (h x (by simp)).2.2) (fun y hy => h y (by simp [hy]))
theorem endL_snoc (rate e : Int) (A : List (Int × Int × Int)) (x : Int × Int × Int) : endL rate e (A ++ [x]) = stepE rate (endL rate e A) x := by simp [endL]
def EInv (x : RR) (i : Nat) (c : Nat) (ρ : Env) (H : Heap) : Prop :=
  ∃ k : Nat, c + k = i + 1 ∧ AnewS 1 [.rw (x.A.flatMap ev3), .rw (x.cells (.sl 0 0 x.A.length 3))] [(1, .i .i64 i), (2, .p 1 0), (5, .i .u64 (endL x.rate 0 (x.A.take k))), (6, .i .i64 k)] ρ H
attribute [local simp] ev3_ren ev3_wf RR.cells
theorem rend_c (x : RR) (h : x.ok) (i : Nat) (hi : i < x.A.length) : SoundM Try.prog 1 26 [.agg (x.cells (.sl 0 0 x.A.length 3)), .i .i64 i] [.rw (x.A.flatMap ev3)] (fun v H' => v = .i .u64 (endL x.rate 0 (x.A.take (i + 1))) ∧ H' = [.rw (x.A.flatMap ev3)]) := by
  have hl := h.len
  refine sound_told (sound_func Try.func26 c26 rfl (by simp) ?_)
  simp only [e26, RR.cells]
  repeat (first
    | ((first | (with_reducible first | apply Aa | apply Ab | apply Ac | apply Ad | apply Ae | apply Af) | ((with_reducible first | apply Ag | apply Ah); · (simp only [go_sem, reduceIte, Nat.reduceEqDiff]; (try with_reducible exact rfl)))); · (simp only [go_sem, Int.reduceBEq, Int.reduceBNe, Int.reduceLT, Int.reduceLE, Int.reduceAdd, Int.reduceSub, Int.reduceToNat, reduceIte, Nat.reduceEqDiff, Nat.reduceAdd, Nat.reduceMul, Nat.reduceLeDiff, Nat.reduceSub, reduceCtorEq]; (try simp (disch := omega) only [OM, if_yes, if_no, Option.map_some]); (try with_reducible exact rfl)))
    | ((with_reducible first | apply Ba | apply Bb | apply Bc | apply Bd | apply Be); · (simp only [go_sem, reduceIte, Nat.reduceEqDiff]; (try with_reducible exact rfl))) | ((with_reducible first | apply Ca | apply Cb | apply Cc | apply Cd | apply Ce); · (simp only [go_sem, reduceIte, Nat.reduceEqDiff]; (try with_reducible exact rfl)))
    | ((with_reducible first | apply Dg | apply Dh); (· decide +kernel); (· (simp only [inOrd, List.getElem?_cons_succ, List.getElem?_cons_zero]; exact rfl)))
    | ((with_reducible first | apply De | apply Df); (· decide +kernel); (· (simp only [inOrd, List.getElem?_cons_succ, List.getElem?_cons_zero]; exact rfl)))
    | (with_reducible first | apply Ea | apply Eb | apply Ec | apply Ed | apply Ee | apply Ef | apply Eg | apply Eh | apply Ei | apply Ej | apply Ek | apply El | apply Em | apply En | apply Eo) | ((with_reducible apply Ep); · rfl))
  refine ei_loop (EInv x i) (n := i + 1) ?_ ?_
  · refine ⟨0, rfl, ?_⟩
    refine anew [0, 1] (by simp [endL]) (by decide) (by simp [-List.map_map, embAt, nm, AObj.ren, renL, Val.ren, endL]) (by simp [-List.map_map, wfAll, AObj.wf, wfL, Val.wf, endL]) (by simp [endL]) rfl (by simp [-List.map_map, Val.wf, wfL, endL]) (by simp [-List.map_map, Env.get, Val.ren, renL, nm, initEnv, endL])
  · rintro c ρ H ⟨k, hk, ha⟩
    refine ei_anewS ha ?_
    clear ha
    simp only [RR.cells]
    repeat (first
    | ((first | (with_reducible first | apply Aa | apply Ab | apply Ac | apply Ad | apply Ae | apply Af) | ((with_reducible first | apply Ag | apply Ah); · (simp only [go_sem, reduceIte, Nat.reduceEqDiff]; (try with_reducible exact rfl)))); · (simp only [go_sem, Int.reduceBEq, Int.reduceBNe, Int.reduceLT, Int.reduceLE, Int.reduceAdd, Int.reduceSub, Int.reduceToNat, reduceIte, Nat.reduceEqDiff, Nat.reduceAdd, Nat.reduceMul, Nat.reduceLeDiff, Nat.reduceSub, reduceCtorEq]; (try simp (disch := omega) only [OM, if_yes, if_no, Option.map_some]); (try with_reducible exact rfl)))
    | ((with_reducible first | apply Ba | apply Bb | apply Bc | apply Bd | apply Be); · (simp only [go_sem, reduceIte, Nat.reduceEqDiff]; (try with_reducible exact rfl))) | ((with_reducible first | apply Ca | apply Cb | apply Cc | apply Cd | apply Ce); · (simp only [go_sem, reduceIte, Nat.reduceEqDiff]; (try with_reducible exact rfl)))
    | ((with_reducible first | apply Dg | apply Dh); (· decide +kernel); (· (simp only [inOrd, List.getElem?_cons_succ, List.getElem?_cons_zero]; exact rfl)))
    | ((with_reducible first | apply De | apply Df); (· decide +kernel); (· (simp only [inOrd, List.getElem?_cons_succ, List.getElem?_cons_zero]; exact rfl)))
    | (with_reducible first | apply Ea | apply Eb | apply Ec | apply Ed | apply Ee | apply Ef | apply Eg | apply Eh | apply Ei | apply Ej | apply Ek | apply El | apply Em | apply En | apply Eo) | ((with_reducible apply Ep); · rfl))
    ((with_reducible apply ei_cond); (· (simp only [go_sem, reduceIte, Nat.reduceEqDiff]; (try with_reducible exact rfl)))) <;> intro hc <;> simp only [decide_eq_true_eq, decide_eq_false_iff_not] at hc
    · have hk1 : k < x.A.length := by omega
      obtain ⟨y, hy⟩ : ∃ y, x.A[k]? = some y := ⟨_, List.getElem?_eq_getElem hk1⟩
      have hyb := h.all y (List.mem_of_getElem? hy)
      have hc2 : (x.A.flatMap ev3)[k * 3 + 2]? = some (.i .u64 y.2.2) := getElem?_flat ev3_len x.A k 2 y hy (by decide)
      have hc1 : (x.A.flatMap ev3)[k * 3 + 1]? = some (.i .i64 y.2.1) := getElem?_flat ev3_len x.A k 1 y hy (by decide)
      have htk : x.A.take (k + 1) = x.A.take k ++ [y] := by rw [List.take_add_one, hy]; rfl
      have hue : U (endL x.rate 0 (x.A.take k)) := U_endL h.rate (by decide) (fun z hz => h.all z (List.mem_of_mem_take hz))
      obtain ⟨e, he⟩ : ∃ e, e = endL x.rate 0 (x.A.take k) := ⟨_, rfl⟩
      rw [← he] at hue
      have hst : endL x.rate 0 (x.A.take (k + 1)) = sat ((if y.2.2 > e then y.2.2 else e) + tm y.2.1 x.rate) := by rw [htk, endL_snoc, ← he]; rfl
      simp only [← he]
      repeat (first
    | ((first | (with_reducible first | apply Aa | apply Ab | apply Ac | apply Ad | apply Ae | apply Af) | ((with_reducible first | apply Ag | apply Ah); · (simp only [go_sem, reduceIte, Nat.reduceEqDiff, Int.toNat_natCast, hc2, hc1]; (try with_reducible exact rfl)))); · (simp only [go_sem, Int.reduceBEq, Int.reduceBNe, Int.reduceLT, Int.reduceLE, Int.reduceAdd, Int.reduceSub, Int.reduceToNat, reduceIte, Nat.reduceEqDiff, Nat.reduceAdd, Nat.reduceMul, Nat.reduceLeDiff, Nat.reduceSub, reduceCtorEq, Int.toNat_natCast, hc2, hc1]; (try simp (disch := omega) only [OM, if_yes, if_no, Option.map_some, Int.toNat_natCast, hc2, hc1]); (try with_reducible exact rfl)))
    | ((with_reducible first | apply Ba | apply Bb | apply Bc | apply Bd | apply Be); · (simp only [go_sem, reduceIte, Nat.reduceEqDiff, Int.toNat_natCast, hc2, hc1]; (try with_reducible exact rfl))) | ((with_reducible first | apply Ca | apply Cb | apply Cc | apply Cd | apply Ce); · (simp only [go_sem, reduceIte, Nat.reduceEqDiff, Int.toNat_natCast, hc2, hc1]; (try with_reducible exact rfl)))
    | ((with_reducible first | apply Dg | apply Dh); (· decide +kernel); (· (simp only [inOrd, List.getElem?_cons_succ, List.getElem?_cons_zero]; exact rfl)))
    | ((with_reducible first | apply De | apply Df); (· decide +kernel); (· (simp only [inOrd, List.getElem?_cons_succ, List.getElem?_cons_zero]; exact rfl)))
    | (with_reducible first | apply Ea | apply Eb | apply Ec | apply Ed | apply Ee | apply Ef | apply Eg | apply Eh | apply Ei | apply Ej | apply Ek | apply El | apply Em | apply En | apply Eo) | ((with_reducible apply Ep); · rfl))
      by_cases hg : y.2.2 > e
      · rw [if_pos hg] at hst
        repeat (first
    | ((first | (with_reducible first | apply Aa | apply Ab | apply Ac | apply Ad | apply Ae | apply Af) | ((with_reducible first | apply Ag | apply Ah); · (simp only [go_sem, reduceIte, Nat.reduceEqDiff, decide_t hg, Int.toNat_natCast, hc2, hc1]; (try with_reducible exact rfl)))); · (simp only [go_sem, Int.reduceBEq, Int.reduceBNe, Int.reduceLT, Int.reduceLE, Int.reduceAdd, Int.reduceSub, Int.reduceToNat, reduceIte, Nat.reduceEqDiff, Nat.reduceAdd, Nat.reduceMul, Nat.reduceLeDiff, Nat.reduceSub, reduceCtorEq, decide_t hg, Int.toNat_natCast, hc2, hc1]; (try simp (disch := omega) only [OM, if_yes, if_no, Option.map_some, decide_t hg, Int.toNat_natCast, hc2, hc1]); (try with_reducible exact rfl)))
    | ((with_reducible first | apply Ba | apply Bb | apply Bc | apply Bd | apply Be); · (simp only [go_sem, reduceIte, Nat.reduceEqDiff, decide_t hg, Int.toNat_natCast, hc2, hc1]; (try with_reducible exact rfl))) | ((with_reducible first | apply Ca | apply Cb | apply Cc | apply Cd | apply Ce); · (simp only [go_sem, reduceIte, Nat.reduceEqDiff, decide_t hg, Int.toNat_natCast, hc2, hc1]; (try with_reducible exact rfl)))
    | ((with_reducible first | apply Dg | apply Dh); (· decide +kernel); (· (simp only [inOrd, List.getElem?_cons_succ, List.getElem?_cons_zero]; exact rfl)))
    | ((with_reducible first | apply De | apply Df); (· decide +kernel); (· (simp only [inOrd, List.getElem?_cons_succ, List.getElem?_cons_zero]; exact rfl)))
    | (with_reducible first | apply Ea | apply Eb | apply Ec | apply Ed | apply Ee | apply Ef | apply Eg | apply Eh | apply Ei | apply Ej | apply Ek | apply El | apply Em | apply En | apply Eo) | ((with_reducible apply Ep); · rfl))
        (first | ((with_reducible apply RunP.call); (· (simp only [go_sem, reduceIte, Nat.reduceEqDiff]; (try with_reducible exact rfl))); (· (simp only [go_sem, reduceIte, Nat.reduceEqDiff]; (try with_reducible exact rfl)))) | ((with_reducible apply Run.call); (· (simp only [go_sem, reduceIte, Nat.reduceEqDiff]; (try with_reducible exact rfl))); (· (simp only [go_sem, reduceIte, Nat.reduceEqDiff]; (try with_reducible exact rfl)))) | ((with_reducible apply Run.callY); (· (simp only [go_sem, reduceIte, Nat.reduceEqDiff]; (try with_reducible exact rfl))); (· (simp only [go_sem, reduceIte, Nat.reduceEqDiff]; (try with_reducible exact rfl))); (· (simp only [go_sem, reduceIte, Nat.reduceEqDiff]; (try with_reducible exact rfl)))) | ((with_reducible apply RunP.callY); (· (simp only [go_sem, reduceIte, Nat.reduceEqDiff]; (try with_reducible exact rfl))); (· (simp only [go_sem, reduceIte, Nat.reduceEqDiff]; (try with_reducible exact rfl))); (· (simp only [go_sem, reduceIte, Nat.reduceEqDiff]; (try with_reducible exact rfl)))) | ((with_reducible apply Run.call0); (· (simp only [go_sem, reduceIte, Nat.reduceEqDiff]; (try with_reducible exact rfl))); (· (simp only [go_sem, reduceIte, Nat.reduceEqDiff]; (try with_reducible exact rfl)))))
        refine (rtime_c y.2.1 x.rate ⟨by omega, by omega⟩ h.rate _).mono ?_
        rintro v H' ⟨rfl, rfl⟩
        first | refine ⟨rfl, ?_⟩ | skip
        repeat (first
    | ((first | (with_reducible first | apply Aa | apply Ab | apply Ac | apply Ad | apply Ae | apply Af) | ((with_reducible first | apply Ag | apply Ah); · (simp only [go_sem, reduceIte, Nat.reduceEqDiff]; (try with_reducible exact rfl)))); · (simp only [go_sem, Int.reduceBEq, Int.reduceBNe, Int.reduceLT, Int.reduceLE, Int.reduceAdd, Int.reduceSub, Int.reduceToNat, reduceIte, Nat.reduceEqDiff, Nat.reduceAdd, Nat.reduceMul, Nat.reduceLeDiff, Nat.reduceSub, reduceCtorEq]; (try simp (disch := omega) only [OM, if_yes, if_no, Option.map_some]); (try with_reducible exact rfl)))
    | ((with_reducible first | apply Ba | apply Bb | apply Bc | apply Bd | apply Be); · (simp only [go_sem, reduceIte, Nat.reduceEqDiff]; (try with_reducible exact rfl))) | ((with_reducible first | apply Ca | apply Cb | apply Cc | apply Cd | apply Ce); · (simp only [go_sem, reduceIte, Nat.reduceEqDiff]; (try with_reducible exact rfl)))
    | ((with_reducible first | apply Dg | apply Dh); (· decide +kernel); (· (simp only [inOrd, List.getElem?_cons_succ, List.getElem?_cons_zero]; exact rfl)))
    | ((with_reducible first | apply De | apply Df); (· decide +kernel); (· (simp only [inOrd, List.getElem?_cons_succ, List.getElem?_cons_zero]; exact rfl)))
    | (with_reducible first | apply Ea | apply Eb | apply Ec | apply Ed | apply Ee | apply Ef | apply Eg | apply Eh | apply Ei | apply Ej | apply Ek | apply El | apply Em | apply En | apply Eo) | ((with_reducible apply Ep); · rfl))
        (first | ((with_reducible apply RunP.call); (· (simp only [go_sem, reduceIte, Nat.reduceEqDiff]; (try with_reducible exact rfl))); (· (simp only [go_sem, reduceIte, Nat.reduceEqDiff]; (try with_reducible exact rfl)))) | ((with_reducible apply Run.call); (· (simp only [go_sem, reduceIte, Nat.reduceEqDiff]; (try with_reducible exact rfl))); (· (simp only [go_sem, reduceIte, Nat.reduceEqDiff]; (try with_reducible exact rfl)))) | ((with_reducible apply Run.callY); (· (simp only [go_sem, reduceIte, Nat.reduceEqDiff]; (try with_reducible exact rfl))); (· (simp only [go_sem, reduceIte, Nat.reduceEqDiff]; (try with_reducible exact rfl))); (· (simp only [go_sem, reduceIte, Nat.reduceEqDiff]; (try with_reducible exact rfl)))) | ((with_reducible apply RunP.callY); (· (simp only [go_sem, reduceIte, Nat.reduceEqDiff]; (try with_reducible exact rfl))); (· (simp only [go_sem, reduceIte, Nat.reduceEqDiff]; (try with_reducible exact rfl))); (· (simp only [go_sem, reduceIte, Nat.reduceEqDiff]; (try with_reducible exact rfl)))) | ((with_reducible apply Run.call0); (· (simp only [go_sem, reduceIte, Nat.reduceEqDiff]; (try with_reducible exact rfl))); (· (simp only [go_sem, reduceIte, Nat.reduceEqDiff]; (try with_reducible exact rfl)))))
        refine (radd_c y.2.2 (tm y.2.1 x.rate) hyb.2.2 (U_tm (by omega) h.rate) _).mono ?_
        rintro v H' ⟨rfl, rfl⟩
        first | refine ⟨rfl, ?_⟩ | skip
        repeat (first
    | ((first | (with_reducible first | apply Aa | apply Ab | apply Ac | apply Ad | apply Ae | apply Af) | ((with_reducible first | apply Ag | apply Ah); · (simp only [go_sem, reduceIte, Nat.reduceEqDiff]; (try with_reducible exact rfl)))); · (simp only [go_sem, Int.reduceBEq, Int.reduceBNe, Int.reduceLT, Int.reduceLE, Int.reduceAdd, Int.reduceSub, Int.reduceToNat, reduceIte, Nat.reduceEqDiff, Nat.reduceAdd, Nat.reduceMul, Nat.reduceLeDiff, Nat.reduceSub, reduceCtorEq]; (try simp (disch := omega) only [OM, if_yes, if_no, Option.map_some]); (try with_reducible exact rfl)))
    | ((with_reducible first | apply Ba | apply Bb | apply Bc | apply Bd | apply Be); · (simp only [go_sem, reduceIte, Nat.reduceEqDiff]; (try with_reducible exact rfl))) | ((with_reducible first | apply Ca | apply Cb | apply Cc | apply Cd | apply Ce); · (simp only [go_sem, reduceIte, Nat.reduceEqDiff]; (try with_reducible exact rfl)))
    | ((with_reducible first | apply Dg | apply Dh); (· decide +kernel); (· (simp only [inOrd, List.getElem?_cons_succ, List.getElem?_cons_zero]; exact rfl)))
    | ((with_reducible first | apply De | apply Df); (· decide +kernel); (· (simp only [inOrd, List.getElem?_cons_succ, List.getElem?_cons_zero]; exact rfl)))
    | (with_reducible first | apply Ea | apply Eb | apply Ec | apply Ed | apply Ee | apply Ef | apply Eg | apply Eh | apply Ei | apply Ej | apply Ek | apply El | apply Em | apply En | apply Eo) | ((with_reducible apply Ep); · rfl))
        refine ⟨c - 1, by omega, k + 1, by omega, ?_⟩
        rw [hst]
        refine anew [0, 1] (by simp [nc0]) (by decide) (by simp [-List.map_map, embAt, nm, AObj.ren, renL, Val.ren, nc0]) (by simp [-List.map_map, wfAll, AObj.wf, wfL, Val.wf, nc0]) (by simp [nc0]) rfl (by simp [-List.map_map, Val.wf, wfL, nc0]) (by simp [-List.map_map, Env.get, Val.ren, renL, nm, initEnv, nc0])
      · rw [if_neg hg] at hst
        repeat (first
    | ((first | (with_reducible first | apply Aa | apply Ab | apply Ac | apply Ad | apply Ae | apply Af) | ((with_reducible first | apply Ag | apply Ah); · (simp only [go_sem, reduceIte, Nat.reduceEqDiff, decide_f hg, Int.toNat_natCast, hc2, hc1]; (try with_reducible exact rfl)))); · (simp only [go_sem, Int.reduceBEq, Int.reduceBNe, Int.reduceLT, Int.reduceLE, Int.reduceAdd, Int.reduceSub, Int.reduceToNat, reduceIte, Nat.reduceEqDiff, Nat.reduceAdd, Nat.reduceMul, Nat.reduceLeDiff, Nat.reduceSub, reduceCtorEq, decide_f hg, Int.toNat_natCast, hc2, hc1]; (try simp (disch := omega) only [OM, if_yes, if_no, Option.map_some, decide_f hg, Int.toNat_natCast, hc2, hc1]); (try with_reducible exact rfl)))
    | ((with_reducible first | apply Ba | apply Bb | apply Bc | apply Bd | apply Be); · (simp only [go_sem, reduceIte, Nat.reduceEqDiff, decide_f hg, Int.toNat_natCast, hc2, hc1]; (try with_reducible exact rfl))) | ((with_reducible first | apply Ca | apply Cb | apply Cc | apply Cd | apply Ce); · (simp only [go_sem, reduceIte, Nat.reduceEqDiff, decide_f hg, Int.toNat_natCast, hc2, hc1]; (try with_reducible exact rfl)))
    | ((with_reducible first | apply Dg | apply Dh); (· decide +kernel); (· (simp only [inOrd, List.getElem?_cons_succ, List.getElem?_cons_zero]; exact rfl)))
    | ((with_reducible first | apply De | apply Df); (· decide +kernel); (· (simp only [inOrd, List.getElem?_cons_succ, List.getElem?_cons_zero]; exact rfl)))
    | (with_reducible first | apply Ea | apply Eb | apply Ec | apply Ed | apply Ee | apply Ef | apply Eg | apply Eh | apply Ei | apply Ej | apply Ek | apply El | apply Em | apply En | apply Eo) | ((with_reducible apply Ep); · rfl))
        (first | ((with_reducible apply RunP.call); (· (simp only [go_sem, reduceIte, Nat.reduceEqDiff]; (try with_reducible exact rfl))); (· (simp only [go_sem, reduceIte, Nat.reduceEqDiff]; (try with_reducible exact rfl)))) | ((with_reducible apply Run.call); (· (simp only [go_sem, reduceIte, Nat.reduceEqDiff]; (try with_reducible exact rfl))); (· (simp only [go_sem, reduceIte, Nat.reduceEqDiff]; (try with_reducible exact rfl)))) | ((with_reducible apply Run.callY); (· (simp only [go_sem, reduceIte, Nat.reduceEqDiff]; (try with_reducible exact rfl))); (· (simp only [go_sem, reduceIte, Nat.reduceEqDiff]; (try with_reducible exact rfl))); (· (simp only [go_sem, reduceIte, Nat.reduceEqDiff]; (try with_reducible exact rfl)))) | ((with_reducible apply RunP.callY); (· (simp only [go_sem, reduceIte, Nat.reduceEqDiff]; (try with_reducible exact rfl))); (· (simp only [go_sem, reduceIte, Nat.reduceEqDiff]; (try with_reducible exact rfl))); (· (simp only [go_sem, reduceIte, Nat.reduceEqDiff]; (try with_reducible exact rfl)))) | ((with_reducible apply Run.call0); (· (simp only [go_sem, reduceIte, Nat.reduceEqDiff]; (try with_reducible exact rfl))); (· (simp only [go_sem, reduceIte, Nat.reduceEqDiff]; (try with_reducible exact rfl)))))
        refine (rtime_c y.2.1 x.rate ⟨by omega, by omega⟩ h.rate _).mono ?_
        rintro v H' ⟨rfl, rfl⟩
        first | refine ⟨rfl, ?_⟩ | skip
        repeat (first
    | ((first | (with_reducible first | apply Aa | apply Ab | apply Ac | apply Ad | apply Ae | apply Af) | ((with_reducible first | apply Ag | apply Ah); · (simp only [go_sem, reduceIte, Nat.reduceEqDiff]; (try with_reducible exact rfl)))); · (simp only [go_sem, Int.reduceBEq, Int.reduceBNe, Int.reduceLT, Int.reduceLE, Int.reduceAdd, Int.reduceSub, Int.reduceToNat, reduceIte, Nat.reduceEqDiff, Nat.reduceAdd, Nat.reduceMul, Nat.reduceLeDiff, Nat.reduceSub, reduceCtorEq]; (try simp (disch := omega) only [OM, if_yes, if_no, Option.map_some]); (try with_reducible exact rfl)))
    | ((with_reducible first | apply Ba | apply Bb | apply Bc | apply Bd | apply Be); · (simp only [go_sem, reduceIte, Nat.reduceEqDiff]; (try with_reducible exact rfl))) | ((with_reducible first | apply Ca | apply Cb | apply Cc | apply Cd | apply Ce); · (simp only [go_sem, reduceIte, Nat.reduceEqDiff]; (try with_reducible exact rfl)))
    | ((with_reducible first | apply Dg | apply Dh); (· decide +kernel); (· (simp only [inOrd, List.getElem?_cons_succ, List.getElem?_cons_zero]; exact rfl)))
    | ((with_reducible first | apply De | apply Df); (· decide +kernel); (· (simp only [inOrd, List.getElem?_cons_succ, List.getElem?_cons_zero]; exact rfl)))
    | (with_reducible first | apply Ea | apply Eb | apply Ec | apply Ed | apply Ee | apply Ef | apply Eg | apply Eh | apply Ei | apply Ej | apply Ek | apply El | apply Em | apply En | apply Eo) | ((with_reducible apply Ep); · rfl))
        (first | ((with_reducible apply RunP.call); (· (simp only [go_sem, reduceIte, Nat.reduceEqDiff]; (try with_reducible exact rfl))); (· (simp only [go_sem, reduceIte, Nat.reduceEqDiff]; (try with_reducible exact rfl)))) | ((with_reducible apply Run.call); (· (simp only [go_sem, reduceIte, Nat.reduceEqDiff]; (try with_reducible exact rfl))); (· (simp only [go_sem, reduceIte, Nat.reduceEqDiff]; (try with_reducible exact rfl)))) | ((with_reducible apply Run.callY); (· (simp only [go_sem, reduceIte, Nat.reduceEqDiff]; (try with_reducible exact rfl))); (· (simp only [go_sem, reduceIte, Nat.reduceEqDiff]; (try with_reducible exact rfl))); (· (simp only [go_sem, reduceIte, Nat.reduceEqDiff]; (try with_reducible exact rfl)))) | ((with_reducible apply RunP.callY); (· (simp only [go_sem, reduceIte, Nat.reduceEqDiff]; (try with_reducible exact rfl))); (· (simp only [go_sem, reduceIte, Nat.reduceEqDiff]; (try with_reducible exact rfl))); (· (simp only [go_sem, reduceIte, Nat.reduceEqDiff]; (try with_reducible exact rfl)))) | ((with_reducible apply Run.call0); (· (simp only [go_sem, reduceIte, Nat.reduceEqDiff]; (try with_reducible exact rfl))); (· (simp only [go_sem, reduceIte, Nat.reduceEqDiff]; (try with_reducible exact rfl)))))
        refine (radd_c e (tm y.2.1 x.rate) hue (U_tm (by omega) h.rate) _).mono ?_
        rintro v H' ⟨rfl, rfl⟩
        first | refine ⟨rfl, ?_⟩ | skip
        repeat (first
    | ((first | (with_reducible first | apply Aa | apply Ab | apply Ac | apply Ad | apply Ae | apply Af) | ((with_reducible first | apply Ag | apply Ah); · (simp only [go_sem, reduceIte, Nat.reduceEqDiff]; (try with_reducible exact rfl)))); · (simp only [go_sem, Int.reduceBEq, Int.reduceBNe, Int.reduceLT, Int.reduceLE, Int.reduceAdd, Int.reduceSub, Int.reduceToNat, reduceIte, Nat.reduceEqDiff, Nat.reduceAdd, Nat.reduceMul, Nat.reduceLeDiff, Nat.reduceSub, reduceCtorEq]; (try simp (disch := omega) only [OM, if_yes, if_no, Option.map_some]); (try with_reducible exact rfl)))
    | ((with_reducible first | apply Ba | apply Bb | apply Bc | apply Bd | apply Be); · (simp only [go_sem, reduceIte, Nat.reduceEqDiff]; (try with_reducible exact rfl))) | ((with_reducible first | apply Ca | apply Cb | apply Cc | apply Cd | apply Ce); · (simp only [go_sem, reduceIte, Nat.reduceEqDiff]; (try with_reducible exact rfl)))
    | ((with_reducible first | apply Dg | apply Dh); (· decide +kernel); (· (simp only [inOrd, List.getElem?_cons_succ, List.getElem?_cons_zero]; exact rfl)))
    | ((with_reducible first | apply De | apply Df); (· decide +kernel); (· (simp only [inOrd, List.getElem?_cons_succ, List.getElem?_cons_zero]; exact rfl)))
    | (with_reducible first | apply Ea | apply Eb | apply Ec | apply Ed | apply Ee | apply Ef | apply Eg | apply Eh | apply Ei | apply Ej | apply Ek | apply El | apply Em | apply En | apply Eo) | ((with_reducible apply Ep); · rfl))
        refine ⟨c - 1, by omega, k + 1, by omega, ?_⟩
        rw [hst]
        refine anew [0, 1] (by simp [nc0]) (by decide) (by simp [-List.map_map, embAt, nm, AObj.ren, renL, Val.ren, nc0]) (by simp [-List.map_map, wfAll, AObj.wf, wfL, Val.wf, nc0]) (by simp [nc0]) rfl (by simp [-List.map_map, Val.wf, wfL, nc0]) (by simp [-List.map_map, Env.get, Val.ren, renL, nm, initEnv, nc0])
    · have hki : k = i + 1 := by omega
      subst hki
      repeat (first
    | ((first | (with_reducible first | apply Aa | apply Ab | apply Ac | apply Ad | apply Ae | apply Af) | ((with_reducible first | apply Ag | apply Ah); · (simp only [go_sem, reduceIte, Nat.reduceEqDiff]; (try with_reducible exact rfl)))); · (simp only [go_sem, Int.reduceBEq, Int.reduceBNe, Int.reduceLT, Int.reduceLE, Int.reduceAdd, Int.reduceSub, Int.reduceToNat, reduceIte, Nat.reduceEqDiff, Nat.reduceAdd, Nat.reduceMul, Nat.reduceLeDiff, Nat.reduceSub, reduceCtorEq]; (try simp (disch := omega) only [OM, if_yes, if_no, Option.map_some]); (try with_reducible exact rfl)))
    | ((with_reducible first | apply Ba | apply Bb | apply Bc | apply Bd | apply Be); · (simp only [go_sem, reduceIte, Nat.reduceEqDiff]; (try with_reducible exact rfl))) | ((with_reducible first | apply Ca | apply Cb | apply Cc | apply Cd | apply Ce); · (simp only [go_sem, reduceIte, Nat.reduceEqDiff]; (try with_reducible exact rfl)))
    | ((with_reducible first | apply Dg | apply Dh); (· decide +kernel); (· (simp only [inOrd, List.getElem?_cons_succ, List.getElem?_cons_zero]; exact rfl)))
    | ((with_reducible first | apply De | apply Df); (· decide +kernel); (· (simp only [inOrd, List.getElem?_cons_succ, List.getElem?_cons_zero]; exact rfl)))
    | (with_reducible first | apply Ea | apply Eb | apply Ec | apply Ed | apply Ee | apply Ef | apply Eg | apply Eh | apply Ei | apply Ej | apply Ek | apply El | apply Em | apply En | apply Eo) | ((with_reducible apply Ep); · rfl))
      refine told [0] [.rw (x.A.flatMap ev3)] (.i .u64 (endL x.rate 0 (x.A.take (i + 1)))) (by simp [nc0]) (by decide) (by simp [-List.map_map, embAt, nm, AObj.ren, renL, Val.ren, nc0]) (by simp [-List.map_map, wfAll, AObj.wf, wfL, Val.wf, nc0]) (by simp [nc0]) rfl (by simp [-List.map_map, Val.wf, wfL, nc0]) (by simp [-List.map_map, Val.ren, renL, nm, nc0]) ?_
      exact ⟨rfl, rfl⟩
def sumG (A : List (Int × Int × Int)) : Int := sumN A
def SInv2 (x : RR) (c : Nat) (ρ : Env) (H : Heap) : Prop :=
  ∃ k : Nat, c + k = x.A.length ∧ x.gone ≤ k ∧ AnewS 1 [.rw (x.A.flatMap ev3), .rw (x.cells (.sl 0 0 x.A.length 3))] [(1, .p 1 0), (3, .i .u64 (sumN ((x.A.take k).drop x.gone.toNat))), (4, .i .i64 k)] ρ H
theorem fine_sub {A B : List (Int × Int × Int)} (h : ∀ y ∈ A, 1 ≤ y.2.1 ∧ y.2.1 ≤ 65536 ∧ U y.2.2) (hs : ∀ y ∈ B, y ∈ A) : Fine B := fun y hy => ⟨(h y (hs y hy)).1, (h y (hs y hy)).2.1⟩
theorem rbytes_c (x : RR) (h : x.ok) : SoundM Try.prog 1 25 [.agg (x.cells (.sl 0 0 x.A.length 3))] [.rw (x.A.flatMap ev3)] (fun v H' => v = .i .u64 (sumN (x.A.drop x.gone.toNat)) ∧ H' = [.rw (x.A.flatMap ev3)]) := by
  have hl := h.len; have hg0 := h.g0; have hg1 := h.g1
  obtain ⟨G, hG⟩ : ∃ G : Nat, (G : Int) = x.gone := ⟨x.gone.toNat, by omega⟩
  refine sound_told (sound_func Try.func25 c25 rfl (by simp) ?_)
  simp only [e25, RR.cells]
  repeat (first
    | ((first | (with_reducible first | apply Aa | apply Ab | apply Ac | apply Ad | apply Ae | apply Af) | ((with_reducible first | apply Ag | apply Ah); · (simp only [go_sem, reduceIte, Nat.reduceEqDiff]; (try with_reducible exact rfl)))); · (simp only [go_sem, Int.reduceBEq, Int.reduceBNe, Int.reduceLT, Int.reduceLE, Int.reduceAdd, Int.reduceSub, Int.reduceToNat, reduceIte, Nat.reduceEqDiff, Nat.reduceAdd, Nat.reduceMul, Nat.reduceLeDiff, Nat.reduceSub, reduceCtorEq]; (try simp (disch := omega) only [OM, if_yes, if_no, Option.map_some]); (try with_reducible exact rfl)))
    | ((with_reducible first | apply Ba | apply Bb | apply Bc | apply Bd | apply Be); · (simp only [go_sem, reduceIte, Nat.reduceEqDiff]; (try with_reducible exact rfl))) | ((with_reducible first | apply Ca | apply Cb | apply Cc | apply Cd | apply Ce); · (simp only [go_sem, reduceIte, Nat.reduceEqDiff]; (try with_reducible exact rfl)))
    | ((with_reducible first | apply Dg | apply Dh); (· decide +kernel); (· (simp only [inOrd, List.getElem?_cons_succ, List.getElem?_cons_zero]; exact rfl)))
    | ((with_reducible first | apply De | apply Df); (· decide +kernel); (· (simp only [inOrd, List.getElem?_cons_succ, List.getElem?_cons_zero]; exact rfl)))
    | (with_reducible first | apply Ea | apply Eb | apply Ec | apply Ed | apply Ee | apply Ef | apply Eg | apply Eh | apply Ei | apply Ej | apply Ek | apply El | apply Em | apply En | apply Eo) | ((with_reducible apply Ep); · rfl))
  refine ei_loop (SInv2 x) (n := x.A.length - G) ?_ ?_
  · refine ⟨G, by omega, by omega, ?_⟩
    have e0 : (x.A.take G).drop x.gone.toNat = [] := by rw [← hG, Int.toNat_natCast, List.drop_eq_nil_of_le (by rw [List.length_take]; omega)]
    rw [e0]
    refine anew [0, 1] (by simp [sumN, hG]) (by decide) (by simp [-List.map_map, embAt, nm, AObj.ren, renL, Val.ren, sumN, hG]) (by simp [-List.map_map, wfAll, AObj.wf, wfL, Val.wf, sumN, hG]) (by simp [sumN, hG]) rfl (by simp [-List.map_map, Val.wf, wfL, sumN, hG]) (by simp [-List.map_map, Env.get, Val.ren, renL, nm, initEnv, sumN, hG])
  · rintro c ρ H ⟨k, hk, hgk, ha⟩
    refine ei_anewS ha ?_
    clear ha
    simp only [RR.cells]
    repeat (first
    | ((first | (with_reducible first | apply Aa | apply Ab | apply Ac | apply Ad | apply Ae | apply Af) | ((with_reducible first | apply Ag | apply Ah); · (simp only [go_sem, reduceIte, Nat.reduceEqDiff]; (try with_reducible exact rfl)))); · (simp only [go_sem, Int.reduceBEq, Int.reduceBNe, Int.reduceLT, Int.reduceLE, Int.reduceAdd, Int.reduceSub, Int.reduceToNat, reduceIte, Nat.reduceEqDiff, Nat.reduceAdd, Nat.reduceMul, Nat.reduceLeDiff, Nat.reduceSub, reduceCtorEq]; (try simp (disch := omega) only [OM, if_yes, if_no, Option.map_some]); (try with_reducible exact rfl)))
    | ((with_reducible first | apply Ba | apply Bb | apply Bc | apply Bd | apply Be); · (simp only [go_sem, reduceIte, Nat.reduceEqDiff]; (try with_reducible exact rfl))) | ((with_reducible first | apply Ca | apply Cb | apply Cc | apply Cd | apply Ce); · (simp only [go_sem, reduceIte, Nat.reduceEqDiff]; (try with_reducible exact rfl)))
    | ((with_reducible first | apply Dg | apply Dh); (· decide +kernel); (· (simp only [inOrd, List.getElem?_cons_succ, List.getElem?_cons_zero]; exact rfl)))
    | ((with_reducible first | apply De | apply Df); (· decide +kernel); (· (simp only [inOrd, List.getElem?_cons_succ, List.getElem?_cons_zero]; exact rfl)))
    | (with_reducible first | apply Ea | apply Eb | apply Ec | apply Ed | apply Ee | apply Ef | apply Eg | apply Eh | apply Ei | apply Ej | apply Ek | apply El | apply Em | apply En | apply Eo) | ((with_reducible apply Ep); · rfl))
    ((with_reducible apply ei_cond); (· (simp only [go_sem, reduceIte, Nat.reduceEqDiff]; (try with_reducible exact rfl)))) <;> intro hc <;> simp only [decide_eq_true_eq, decide_eq_false_iff_not] at hc
    · have hk1 : k < x.A.length := by omega
      obtain ⟨y, hy⟩ : ∃ y, x.A[k]? = some y := ⟨_, List.getElem?_eq_getElem hk1⟩
      have hyb := h.all y (List.mem_of_getElem? hy)
      have hc1 : (x.A.flatMap ev3)[k * 3 + 1]? = some (.i .i64 y.2.1) := getElem?_flat ev3_len x.A k 1 y hy (by decide)
      have htk : x.A.take (k + 1) = x.A.take k ++ [y] := by rw [List.take_add_one, hy]; rfl
      have hs := sumN_le (q := (x.A.take k).drop x.gone.toNat) (fine_sub h.all (fun z hz => List.mem_of_mem_take (List.mem_of_mem_drop hz)))
      have hll : ((x.A.take k).drop x.gone.toNat).length ≤ 80 := by rw [List.length_drop, List.length_take]; omega
      have hsn : sumN ((x.A.take (k + 1)).drop x.gone.toNat) = sumN ((x.A.take k).drop x.gone.toNat) + y.2.1 := by
        rw [htk, List.drop_append_of_le_length (by rw [List.length_take]; omega), sumN_snoc]
      obtain ⟨s, hsd⟩ : ∃ s, s = sumN ((x.A.take k).drop x.gone.toNat) := ⟨_, rfl⟩
      rw [← hsd] at hs hsn
      simp only [← hsd]
      repeat (first
    | ((first | (with_reducible first | apply Aa | apply Ab | apply Ac | apply Ad | apply Ae | apply Af) | ((with_reducible first | apply Ag | apply Ah); · (simp only [go_sem, reduceIte, Nat.reduceEqDiff, Int.toNat_natCast, hc1]; (try with_reducible exact rfl)))); · (simp only [go_sem, Int.reduceBEq, Int.reduceBNe, Int.reduceLT, Int.reduceLE, Int.reduceAdd, Int.reduceSub, Int.reduceToNat, reduceIte, Nat.reduceEqDiff, Nat.reduceAdd, Nat.reduceMul, Nat.reduceLeDiff, Nat.reduceSub, reduceCtorEq, Int.toNat_natCast, hc1]; (try simp (disch := omega) only [OM, if_yes, if_no, Option.map_some, Int.toNat_natCast, hc1]); (try with_reducible exact rfl)))
    | ((with_reducible first | apply Ba | apply Bb | apply Bc | apply Bd | apply Be); · (simp only [go_sem, reduceIte, Nat.reduceEqDiff, Int.toNat_natCast, hc1]; (try with_reducible exact rfl))) | ((with_reducible first | apply Ca | apply Cb | apply Cc | apply Cd | apply Ce); · (simp only [go_sem, reduceIte, Nat.reduceEqDiff, Int.toNat_natCast, hc1]; (try with_reducible exact rfl)))
    | ((with_reducible first | apply Dg | apply Dh); (· decide +kernel); (· (simp only [inOrd, List.getElem?_cons_succ, List.getElem?_cons_zero]; exact rfl)))
    | ((with_reducible first | apply De | apply Df); (· decide +kernel); (· (simp only [inOrd, List.getElem?_cons_succ, List.getElem?_cons_zero]; exact rfl)))
    | (with_reducible first | apply Ea | apply Eb | apply Ec | apply Ed | apply Ee | apply Ef | apply Eg | apply Eh | apply Ei | apply Ej | apply Ek | apply El | apply Em | apply En | apply Eo) | ((with_reducible apply Ep); · rfl))
      refine ⟨c - 1, by omega, k + 1, by omega, by omega, ?_⟩
      rw [hsn]
      refine anew [0, 1] (by simp [nc0]) (by decide) (by simp [-List.map_map, embAt, nm, AObj.ren, renL, Val.ren, nc0]) (by simp [-List.map_map, wfAll, AObj.wf, wfL, Val.wf, nc0]) (by simp [nc0]) rfl (by simp [-List.map_map, Val.wf, wfL, nc0]) (by simp [-List.map_map, Env.get, Val.ren, renL, nm, initEnv, nc0])
    · have hki : k = x.A.length := by omega
      subst hki
      repeat (first
    | ((first | (with_reducible first | apply Aa | apply Ab | apply Ac | apply Ad | apply Ae | apply Af) | ((with_reducible first | apply Ag | apply Ah); · (simp only [go_sem, reduceIte, Nat.reduceEqDiff]; (try with_reducible exact rfl)))); · (simp only [go_sem, Int.reduceBEq, Int.reduceBNe, Int.reduceLT, Int.reduceLE, Int.reduceAdd, Int.reduceSub, Int.reduceToNat, reduceIte, Nat.reduceEqDiff, Nat.reduceAdd, Nat.reduceMul, Nat.reduceLeDiff, Nat.reduceSub, reduceCtorEq]; (try simp (disch := omega) only [OM, if_yes, if_no, Option.map_some]); (try with_reducible exact rfl)))
    | ((with_reducible first | apply Ba | apply Bb | apply Bc | apply Bd | apply Be); · (simp only [go_sem, reduceIte, Nat.reduceEqDiff]; (try with_reducible exact rfl))) | ((with_reducible first | apply Ca | apply Cb | apply Cc | apply Cd | apply Ce); · (simp only [go_sem, reduceIte, Nat.reduceEqDiff]; (try with_reducible exact rfl)))
    | ((with_reducible first | apply Dg | apply Dh); (· decide +kernel); (· (simp only [inOrd, List.getElem?_cons_succ, List.getElem?_cons_zero]; exact rfl)))
    | ((with_reducible first | apply De | apply Df); (· decide +kernel); (· (simp only [inOrd, List.getElem?_cons_succ, List.getElem?_cons_zero]; exact rfl)))
    | (with_reducible first | apply Ea | apply Eb | apply Ec | apply Ed | apply Ee | apply Ef | apply Eg | apply Eh | apply Ei | apply Ej | apply Ek | apply El | apply Em | apply En | apply Eo) | ((with_reducible apply Ep); · rfl))
      refine told [0] [.rw (x.A.flatMap ev3)] (.i .u64 (sumN (x.A.drop x.gone.toNat))) (by simp [nc0]) (by decide) (by simp [-List.map_map, embAt, nm, AObj.ren, renL, Val.ren, nc0]) (by simp [-List.map_map, wfAll, AObj.wf, wfL, Val.wf, nc0]) (by simp [nc0]) rfl (by simp [-List.map_map, Val.wf, wfL, nc0]) (by simp [-List.map_map, Val.ren, renL, nm, nc0]) ?_
      · exact ⟨rfl, rfl⟩
theorem rbytes_nil (room rate clock : Int) (shut : Bool) (H : Heap) : SoundCall Try.prog 25 [.agg [.i .i64 room, .i .u64 rate, .nils, .i .i64 0, .i .u64 clock, .b shut]] H (fun v H' => v = .i .u64 0 ∧ H' = H) := by
  refine sound_pure rfl (by rintro v rfl; rfl) ?_ H
  refine sound_func Try.func25 c25 rfl (by simp) ?_
  simp only [e25]
  repeat (first
    | ((first | (with_reducible first | apply Aa | apply Ab | apply Ac | apply Ad | apply Ae | apply Af) | ((with_reducible first | apply Ag | apply Ah); · (simp only [go_sem, reduceIte, Nat.reduceEqDiff]; (try with_reducible exact rfl)))); · (simp only [go_sem, Int.reduceBEq, Int.reduceBNe, Int.reduceLT, Int.reduceLE, Int.reduceAdd, Int.reduceSub, Int.reduceToNat, reduceIte, Nat.reduceEqDiff, Nat.reduceAdd, Nat.reduceMul, Nat.reduceLeDiff, Nat.reduceSub, reduceCtorEq]; (try simp (disch := omega) only [OM, if_yes, if_no, Option.map_some]); (try with_reducible exact rfl)))
    | ((with_reducible first | apply Ba | apply Bb | apply Bc | apply Bd | apply Be); · (simp only [go_sem, reduceIte, Nat.reduceEqDiff]; (try with_reducible exact rfl))) | ((with_reducible first | apply Ca | apply Cb | apply Cc | apply Cd | apply Ce); · (simp only [go_sem, reduceIte, Nat.reduceEqDiff]; (try with_reducible exact rfl)))
    | ((with_reducible first | apply Dg | apply Dh); (· decide +kernel); (· (simp only [inOrd, List.getElem?_cons_succ, List.getElem?_cons_zero]; exact rfl)))
    | ((with_reducible first | apply De | apply Df); (· decide +kernel); (· (simp only [inOrd, List.getElem?_cons_succ, List.getElem?_cons_zero]; exact rfl)))
    | (with_reducible first | apply Ea | apply Eb | apply Ec | apply Ed | apply Ee | apply Ef | apply Eg | apply Eh | apply Ei | apply Ej | apply Ek | apply El | apply Em | apply En | apply Eo) | ((with_reducible apply Ep); · rfl))
  refine ei_loop (fun _ ρ H => AnewS 0 [.rw [.i .i64 room, .i .u64 rate, .nils, .i .i64 0, .i .u64 clock, .b shut]] [(1, .p 0 0), (3, .i .u64 0), (4, .i .i64 0)] ρ H) (n := 0) ?_ ?_
  · refine anew [0] (by simp [ev3_ren]) (by decide) (by simp [-List.map_map, embAt, nm, AObj.ren, renL, Val.ren, ev3_ren]) (by simp [-List.map_map, wfAll, AObj.wf, wfL, Val.wf, ev3_ren]) (by simp [ev3_ren]) rfl (by simp [-List.map_map, Val.wf, wfL, ev3_ren]) (by simp [-List.map_map, Env.get, Val.ren, renL, nm, initEnv, ev3_ren])
  · rintro c ρ H ha
    refine ei_anewS ha ?_
    repeat (first
    | ((first | (with_reducible first | apply Aa | apply Ab | apply Ac | apply Ad | apply Ae | apply Af) | ((with_reducible first | apply Ag | apply Ah); · (simp only [go_sem, reduceIte, Nat.reduceEqDiff]; (try with_reducible exact rfl)))); · (simp only [go_sem, Int.reduceBEq, Int.reduceBNe, Int.reduceLT, Int.reduceLE, Int.reduceAdd, Int.reduceSub, Int.reduceToNat, reduceIte, Nat.reduceEqDiff, Nat.reduceAdd, Nat.reduceMul, Nat.reduceLeDiff, Nat.reduceSub, reduceCtorEq]; (try simp (disch := omega) only [OM, if_yes, if_no, Option.map_some]); (try with_reducible exact rfl)))
    | ((with_reducible first | apply Ba | apply Bb | apply Bc | apply Bd | apply Be); · (simp only [go_sem, reduceIte, Nat.reduceEqDiff]; (try with_reducible exact rfl))) | ((with_reducible first | apply Ca | apply Cb | apply Cc | apply Cd | apply Ce); · (simp only [go_sem, reduceIte, Nat.reduceEqDiff]; (try with_reducible exact rfl)))
    | ((with_reducible first | apply Dg | apply Dh); (· decide +kernel); (· (simp only [inOrd, List.getElem?_cons_succ, List.getElem?_cons_zero]; exact rfl)))
    | ((with_reducible first | apply De | apply Df); (· decide +kernel); (· (simp only [inOrd, List.getElem?_cons_succ, List.getElem?_cons_zero]; exact rfl)))
    | (with_reducible first | apply Ea | apply Eb | apply Ec | apply Ed | apply Ee | apply Ef | apply Eg | apply Eh | apply Ei | apply Ej | apply Ek | apply El | apply Em | apply En | apply Eo) | ((with_reducible apply Ep); · rfl))
    rfl
end Go.Proofs.Ythpcdpnolmacpaa.IR
