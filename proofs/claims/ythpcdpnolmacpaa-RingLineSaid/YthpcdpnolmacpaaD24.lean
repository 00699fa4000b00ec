/- This text of a proof shows: what Done of a ring comes to. -/
import Derived.Test.YthpcdpnolmacpaaP24
set_option linter.unusedVariables false
set_option linter.unusedSimpArgs false
set_option linter.constructorNameAsVariable false
namespace Go.Proofs.Ythpcdpnolmacpaa.IR
open Go Go.Proofs.Ythpcdpnolmacpaa.Ev Go.Proofs.Ythpcdpnolmacpaa.Ext
set_option linter.unusedSimpArgs false
set_option linter.unusedVariables false
set_option maxHeartbeats 4000000
attribute [local go_sem] skipV nc0 nc1 nc2 nc3 bne_self_eq_false decide_true decide_false IOp.step Opd.ev Env.get initEnv Val.cells? Val.one List.all_cons List.all_nil Bool.and_true Bool.and_self Bool.true_and bin ints eqv Val.kindNo lenNo_s lenNo_nils lenNo_sl lenNo_nilm lenNo_m lenOf_s lenOf_nils lenOf_sl lenOf_nilm unary mxs mx2 partsOf padTo List.foldl_cons List.foldl_nil wr_nil wr_step wr_zero List.set_cons_zero List.set_cons_succ List.map_cons List.map_nil z1 z2 Nat.succ_ne_zero List.length_cons List.length_nil List.cons_append List.nil_append List.append_nil List.getElem?_cons_zero List.getElem?_cons_succ List.getElem?_nil Option.map_some Option.map_none Nat.zero_add Nat.add_zero List.drop_zero List.drop_succ_cons List.take_succ_cons List.take_zero List.take_nil and_self and_true true_and Nat.le_refl Bool.not_true Bool.not_false Option.getD_some window Val.slen bnd resV resL RV.val Bool.false_eq_true BEq.rfl Bool.true_beq Bool.false_beq beq_true beq_false mk_one ite_true ite_false eqc ceqs ceq
/-- The ring's places hold the packets q, in order. -/
structure Rep (s : RS) (q : List (Int × Int × Int)) : Prop where
  ok : s.ok
  many : s.many = q.length
  at_ : ∀ (i : Nat) (x : Int × Int × Int), q[i]? = some x → s.l[((s.first + i) % s.l.length).toNat]? = some x
theorem Rep.head {s : RS} {x : Int × Int × Int} {q : List (Int × Int × Int)} (h : Rep s (x :: q)) : s.l[s.first.toNat]? = some x := by
  have := h.at_ 0 x rfl
  rw [show (s.first + ((0 : Nat) : Int)) % s.l.length = s.first from by
    rw [Int.natCast_zero, Int.add_zero]; exact Int.emod_eq_of_lt h.ok.f0 h.ok.f1] at this
  exact this
theorem Rep.pop {s : RS} {x : Int × Int × Int} {q : List (Int × Int × Int)} (h : Rep s (x :: q)) : Rep { s with first := (s.first + 1) % s.l.length, many := s.many - 1 } q := by
  obtain ⟨⟨f0, f1, m0, m1, hl⟩, hm, ha⟩ := h
  have hp : (0 : Int) < s.l.length := by omega
  simp only [List.length_cons] at hm
  refine ⟨⟨Int.emod_nonneg _ (by omega), Int.emod_lt_of_pos _ hp, ?_, ?_, hl⟩, ?_, fun i y hy => ?_⟩
  · show 0 ≤ s.many - 1; omega
  · show s.many - 1 ≤ (s.l.length : Int); omega
  · show s.many - 1 = _; omega
  · have := ha (i + 1) y (by simpa using hy)
    simp only at this ⊢
    rw [Int.emod_add_emod, Int.add_assoc, Int.add_comm 1 (i : Int)]
    exact this
theorem Rep.push {s : RS} {q : List (Int × Int × Int)} (h : Rep s q) (hf : s.many < s.l.length) (x : Int × Int × Int) : Rep { s with l := s.l.set ((s.first + s.many) % s.l.length).toNat x, many := s.many + 1 } (q ++ [x]) := by
  obtain ⟨⟨f0, f1, m0, m1, hl⟩, hm, ha⟩ := h
  have hp : (0 : Int) < s.l.length := by omega
  have q0 := Int.emod_nonneg (s.first + s.many) (b := s.l.length) (by omega)
  have q1 := Int.emod_lt_of_pos (s.first + s.many) (b := s.l.length) (by omega)
  refine ⟨⟨f0, by simpa using f1, ?_, ?_, by simpa using hl⟩, ?_, fun i y hy => ?_⟩
  · show 0 ≤ s.many + 1; omega
  · simp; omega
  · simp; omega
  · simp only [List.length_set]
    rcases Nat.lt_or_ge i q.length with hi | hi
    · rw [List.getElem?_append_left hi] at hy
      rw [List.getElem?_set_ne]
      · exact ha i y hy
      · intro e
        have e1 : (s.first + s.many) % (s.l.length : Int) = (s.first + (i : Int)) % s.l.length := by
          have := Int.emod_nonneg (s.first + (i : Int)) (b := s.l.length) (by omega)
          omega
        have e2 := Int.emod_emod_of_dvd (s.many - (i : Int)) (Int.dvd_refl (s.l.length : Int))
        have e3 : (s.many - (i : Int)) % s.l.length = 0 := by
          have : (s.many - (i : Int)) = (s.first + s.many) - (s.first + i) := by omega
          rw [this, Int.sub_emod, e1, Int.sub_self, Int.zero_emod]
        rw [Int.emod_eq_of_lt (by omega) (by omega)] at e3
        omega
    · rw [List.getElem?_append_right hi] at hy
      have hi' : i = q.length := by
        rcases Nat.eq_or_lt_of_le hi with e | e
        · exact e.symm
        · rw [List.getElem?_eq_none (by simp; omega)] at hy; cases hy
      subst hi'
      simp at hy
      subst hy
      rw [hm, List.getElem?_set_self (by rw [← hm]; omega)]

/-- What a slice of numbers is, as the third object. -/
def outV (d : List Int) : Val := if d = [] then .nils else .sl 2 0 d.length 1
def outH (d : List Int) : Heap := if d = [] then [] else [.rw (d.map (.i .u64))]
def subB (b : Int) (d : List (Int × Int × Int)) : Int := d.foldl (fun b x => IntKind.u64.wrap (b - IntKind.u64.wrap x.2.1)) b
/-- Of the packets q those at the head that have ended. -/
def ended (now : Int) (q : List (Int × Int × Int)) : List (Int × Int × Int) := q.takeWhile fun x => x.2.2 ≤ now
def left (now : Int) (q : List (Int × Int × Int)) : List (Int × Int × Int) := q.dropWhile fun x => x.2.2 ≤ now
theorem outV_wf (d : List Int) (k : Nat) (h : 3 ≤ k ∨ d = []) : (outV d).wf k = true := by
  unfold outV; split
  · rfl
  · rename_i hd; rcases h with h | h
    · simp [Val.wf]; omega
    · exact absurd h hd

def DInv (s0 : RS) (c : Int) (q : List (Int × Int × Int)) (n : Nat) (ρ : Env) (H : Heap) : Prop :=
  ∃ (d r : List (Int × Int × Int)) (s : RS), q = d ++ r ∧ n = r.length ∧ (∀ x ∈ d, x.2.2 ≤ c) ∧ Rep s r ∧ s.l = s0.l ∧ s.rate = s0.rate ∧ s.clock = c ∧ s.last = s0.last ∧ s.bytes = subB s0.bytes d ∧ s.shut = s0.shut ∧
    AnewS 2 (s.heap ++ outH (d.map (·.1))) [(0, .p 0 0), (5, outV (d.map (·.1)))] ρ H

theorem ended_app {c : Int} : ∀ {d r : List (Int × Int × Int)}, (∀ x ∈ d, x.2.2 ≤ c) → (∀ x, r.head? = some x → ¬ x.2.2 ≤ c) → ended c (d ++ r) = d ∧ left c (d ++ r) = r
  | [], [], _, _ => ⟨rfl, rfl⟩
  | [], x :: r, _, h => by
    have := h x rfl
    simp [ended, left, List.takeWhile, List.dropWhile, this]
  | y :: d, r, hd, h => by
    have hy := hd y (by simp)
    have ih := ended_app (d := d) (r := r) (fun x hx => hd x (by simp [hx])) h
    simp only [ended, left] at ih ⊢
    simp only [List.cons_append, List.takeWhile, List.dropWhile, hy, decide_true, ih, and_self]
theorem subB_snoc (b : Int) (d : List (Int × Int × Int)) (x : Int × Int × Int) : subB b (d ++ [x]) = IntKind.u64.wrap (subB b d - IntKind.u64.wrap x.2.1) := by simp [subB]
theorem take_map {α : Type} (d : List α) (f : α → Val) : (d.map f).take d.length = d.map f := List.take_of_length_le (by simp)
theorem take_map2 (d : List (Int × Int × Int)) : ((d.map fun x => x.1).map (Val.i .u64)).take d.length = (d.map fun x => x.1).map (.i .u64) := List.take_of_length_le (by simp)
theorem map_u64 (ι : Nat → Nat) (d : List Int) : renL ι (d.map (.i .u64)) = d.map (.i .u64) := by rw [renL_map]; simp [Val.ren]
theorem map_u64_wf (m : Nat) : ∀ (d : List Int), wfL m (d.map (.i .u64)) = true
  | [] => rfl
  | x :: d => by simp [wfL, Val.wf, map_u64_wf m d]

/-- What Done of the packets q leaves, and answers. -/
def DPost (s : RS) (q : List (Int × Int × Int)) (now : Int) (v : Val) (H' : Heap) : Prop :=
  ∃ s' : RS, Rep s' (left (mxi s.clock now) q) ∧ s'.l.length = s.l.length ∧ s'.rate = s.rate ∧ s'.clock = mxi s.clock now ∧ s'.last = s.last ∧ s'.bytes = subB s.bytes (ended (mxi s.clock now) q) ∧
      s'.shut = (if ((left (mxi s.clock now) q).length : Int) ≤ s.l.length / 2 then false else s.shut) ∧ v = outV ((ended (mxi s.clock now) q).map (·.1)) ∧ H' = s'.heap ++ outH ((ended (mxi s.clock now) q).map (·.1))
theorem done_c (s : RS) (q : List (Int × Int × Int)) (now : Int) (hr : Rep s q) :
    SoundM Try.prog 2 14 [.p 0 0, .i .u64 now] s.heap (DPost s q now) := by
  refine sound_told (sound_func Try.func14 c14 rfl (by simp [RS.heap]) ?_)
  simp only [e14, RS.heap, RS.cells]
  repeat (first
    | ((first | (with_reducible first | apply Aa | apply Ab | apply Ac | apply Ad | apply Ae | apply Af | apply Na | apply Nb) | ((with_reducible first | apply Ag | apply Ah | apply Nc); · (simp only [go_sem, reduceIte, Nat.reduceEqDiff]; (try with_reducible exact rfl)))); · (simp only [go_sem, Int.reduceBEq, Int.reduceBNe, Int.reduceLT, Int.reduceLE, Int.reduceAdd, Int.reduceSub, Int.reduceToNat, reduceIte, Nat.reduceEqDiff, Nat.reduceAdd, Nat.reduceMul, Nat.reduceLeDiff, Nat.reduceSub, reduceCtorEq]; (try simp (disch := omega) only [OM, mn_lo, mn_hi, mx_lo, mx_hi, if_yes, if_no, Option.map_some]); (try with_reducible exact rfl)))
    | ((with_reducible first | apply Ba | apply Bb | apply Bc | apply Bd | apply Be | apply Nd); · (simp only [go_sem, reduceIte, Nat.reduceEqDiff]; (try with_reducible exact rfl))) | ((with_reducible first | apply Ca | apply Cb | apply Cc | apply Cd | apply Ce | apply Ne); · (simp only [go_sem, reduceIte, Nat.reduceEqDiff]; (try with_reducible exact rfl)))
    | ((with_reducible first | apply Dg | apply Dh); (· decide +kernel); (· (simp only [inOrd, List.getElem?_cons_succ, List.getElem?_cons_zero]; exact rfl)))
    | ((with_reducible first | apply De | apply Df); (· decide +kernel); (· (simp only [inOrd, List.getElem?_cons_succ, List.getElem?_cons_zero]; exact rfl)))
    | (with_reducible first | apply Ea | apply Eb | apply Ec | apply Ed | apply Ee | apply Ef | apply Eg | apply Eh | apply Ei | apply Ej | apply Ek | apply El | apply Em | apply En | apply Eo) | ((with_reducible apply Ep); · rfl))
  (first | ((with_reducible apply RunP.call); (· (simp only [go_sem, reduceIte, Nat.reduceEqDiff]; (try with_reducible exact rfl))); (· (simp only [go_sem, reduceIte, Nat.reduceEqDiff]; (try with_reducible exact rfl)))) | ((with_reducible apply Run.call); (· (simp only [go_sem, reduceIte, Nat.reduceEqDiff]; (try with_reducible exact rfl))); (· (simp only [go_sem, reduceIte, Nat.reduceEqDiff]; (try with_reducible exact rfl)))) | ((with_reducible apply Run.callY); (· (simp only [go_sem, reduceIte, Nat.reduceEqDiff]; (try with_reducible exact rfl))); (· (simp only [go_sem, reduceIte, Nat.reduceEqDiff]; (try with_reducible exact rfl))); (· (simp only [go_sem, reduceIte, Nat.reduceEqDiff]; (try with_reducible exact rfl)))) | ((with_reducible apply RunP.callY); (· (simp only [go_sem, reduceIte, Nat.reduceEqDiff]; (try with_reducible exact rfl))); (· (simp only [go_sem, reduceIte, Nat.reduceEqDiff]; (try with_reducible exact rfl))); (· (simp only [go_sem, reduceIte, Nat.reduceEqDiff]; (try with_reducible exact rfl)))) | ((with_reducible apply Run.call0); (· (simp only [go_sem, reduceIte, Nat.reduceEqDiff]; (try with_reducible exact rfl))); (· (simp only [go_sem, reduceIte, Nat.reduceEqDiff]; (try with_reducible exact rfl)))))
  refine sound_use (none_c s) [0, 1] rfl (by decide) (by simp [-List.map_map, embAt, nm, AObj.ren, renL, Val.ren, RS.heap, RS.cells, ev3_ren, ev3_wf]) (by simp [-List.map_map, wfAll, AObj.wf, wfL, Val.wf, RS.heap, RS.cells, ev3_ren, ev3_wf]) (by simp [-List.map_map, Val.wf, wfL, RS.heap, RS.cells, ev3_ren, ev3_wf]) (by simp [-List.map_map, Val.ren, renL, nm, RS.heap, RS.cells, ev3_ren, ev3_wf]) ?_
  rintro v C' ⟨rfl, rfl⟩
  simp only [merge, place, after, nm, MG, Val.ren, renL, AObj.ren, reduceIte, Nat.reduceLT, Nat.reduceAdd, Nat.reduceSub, Nat.lt_irrefl, Nat.zero_lt_one, Nat.zero_lt_succ, RS.heap, RS.cells, ev3_ren]
  repeat (first
    | ((first | (with_reducible first | apply Aa | apply Ab | apply Ac | apply Ad | apply Ae | apply Af | apply Na | apply Nb) | ((with_reducible first | apply Ag | apply Ah | apply Nc); · (simp only [go_sem, reduceIte, Nat.reduceEqDiff]; (try with_reducible exact rfl)))); · (simp only [go_sem, Int.reduceBEq, Int.reduceBNe, Int.reduceLT, Int.reduceLE, Int.reduceAdd, Int.reduceSub, Int.reduceToNat, reduceIte, Nat.reduceEqDiff, Nat.reduceAdd, Nat.reduceMul, Nat.reduceLeDiff, Nat.reduceSub, reduceCtorEq]; (try simp (disch := omega) only [OM, mn_lo, mn_hi, mx_lo, mx_hi, if_yes, if_no, Option.map_some]); (try with_reducible exact rfl)))
    | ((with_reducible first | apply Ba | apply Bb | apply Bc | apply Bd | apply Be | apply Nd); · (simp only [go_sem, reduceIte, Nat.reduceEqDiff]; (try with_reducible exact rfl))) | ((with_reducible first | apply Ca | apply Cb | apply Cc | apply Cd | apply Ce | apply Ne); · (simp only [go_sem, reduceIte, Nat.reduceEqDiff]; (try with_reducible exact rfl)))
    | ((with_reducible first | apply Dg | apply Dh); (· decide +kernel); (· (simp only [inOrd, List.getElem?_cons_succ, List.getElem?_cons_zero]; exact rfl)))
    | ((with_reducible first | apply De | apply Df); (· decide +kernel); (· (simp only [inOrd, List.getElem?_cons_succ, List.getElem?_cons_zero]; exact rfl)))
    | (with_reducible first | apply Ea | apply Eb | apply Ec | apply Ed | apply Ee | apply Ef | apply Eg | apply Eh | apply Ei | apply Ej | apply Ek | apply El | apply Em | apply En | apply Eo) | ((with_reducible apply Ep); · rfl))
  refine ei_loop (DInv s (mxi s.clock now) q) (n := q.length) ?_ ?_
  · refine ⟨[], q, { s with clock := mxi s.clock now }, rfl, rfl, by simp, ⟨⟨hr.ok.f0, hr.ok.f1, hr.ok.m0, hr.ok.m1, hr.ok.len⟩, hr.many, hr.at_⟩, rfl, rfl, rfl, rfl, rfl, rfl, ?_⟩
    refine anew [0, 1] (by simp [RS.heap, RS.cells, ev3_ren, ev3_wf, outH, outV, mxi] <;> fail) (by decide) (by simp [-List.map_map, embAt, nm, AObj.ren, renL, Val.ren, RS.heap, RS.cells, ev3_ren, ev3_wf, outH, outV, mxi]) (by simp [-List.map_map, wfAll, AObj.wf, wfL, Val.wf, RS.heap, RS.cells, ev3_ren, ev3_wf, outH, outV, mxi]) (by simp [RS.heap, RS.cells, ev3_ren, ev3_wf, outH, outV, mxi]) rfl (by simp [-List.map_map, Val.wf, wfL, RS.heap, RS.cells, ev3_ren, ev3_wf, outH, outV, mxi]) (by simp [-List.map_map, Env.get, Val.ren, renL, nm, initEnv, RS.heap, RS.cells, ev3_ren, ev3_wf, outH, outV, mxi])
  · rintro n ρ H ⟨d, r, s1, rfl, rfl, hd, hr1, e1, e2, e3, e4, e5, e6, ha⟩
    refine ei_anewS ha ?_
    clear ha
    have hlen : d.length + r.length ≤ 4096 := by
      have h1 := hr.many
      have h2 := hr.ok.m1
      have h3 := hr.ok.len
      rw [List.length_append] at h1
      omega
    have hs1 : s1.many = r.length := hr1.many
    have hl1 := hr1.ok.len
    by_cases hd0 : d = []
    · have hdm : d.map (fun x => x.1) = [] := by rw [hd0]; rfl
      simp only [outV, outH, hdm, if_true, List.append_nil, RS.heap, RS.cells]
      cases r with
      | nil =>
        have hx := ended_app (c := mxi s.clock now) (r := []) hd (fun x hx => by cases hx)
        rw [List.append_nil] at hx
        repeat (first
    | ((first | (with_reducible first | apply Aa | apply Ab | apply Ac | apply Ad | apply Ae | apply Af | apply Na | apply Nb) | ((with_reducible first | apply Ag | apply Ah | apply Nc); · (simp only [go_sem, reduceIte, Nat.reduceEqDiff]; (try with_reducible exact rfl)))); · (simp only [go_sem, Int.reduceBEq, Int.reduceBNe, Int.reduceLT, Int.reduceLE, Int.reduceAdd, Int.reduceSub, Int.reduceToNat, reduceIte, Nat.reduceEqDiff, Nat.reduceAdd, Nat.reduceMul, Nat.reduceLeDiff, Nat.reduceSub, reduceCtorEq]; (try simp (disch := omega) only [OM, mn_lo, mn_hi, mx_lo, mx_hi, if_yes, if_no, Option.map_some]); (try with_reducible exact rfl)))
    | ((with_reducible first | apply Ba | apply Bb | apply Bc | apply Bd | apply Be | apply Nd); · (simp only [go_sem, reduceIte, Nat.reduceEqDiff]; (try with_reducible exact rfl))) | ((with_reducible first | apply Ca | apply Cb | apply Cc | apply Cd | apply Ce | apply Ne); · (simp only [go_sem, reduceIte, Nat.reduceEqDiff]; (try with_reducible exact rfl)))
    | ((with_reducible first | apply Dg | apply Dh); (· decide +kernel); (· (simp only [inOrd, List.getElem?_cons_succ, List.getElem?_cons_zero]; exact rfl)))
    | ((with_reducible first | apply De | apply Df); (· decide +kernel); (· (simp only [inOrd, List.getElem?_cons_succ, List.getElem?_cons_zero]; exact rfl)))
    | (with_reducible first | apply Ea | apply Eb | apply Ec | apply Ed | apply Ee | apply Ef | apply Eg | apply Eh | apply Ei | apply Ej | apply Ek | apply El | apply Em | apply En | apply Eo) | ((with_reducible apply Ep); · rfl))
        (first | ((with_reducible apply RunP.call); (· (simp only [go_sem, reduceIte, Nat.reduceEqDiff]; (try with_reducible exact rfl))); (· (simp only [go_sem, reduceIte, Nat.reduceEqDiff]; (try with_reducible exact rfl)))) | ((with_reducible apply Run.call); (· (simp only [go_sem, reduceIte, Nat.reduceEqDiff]; (try with_reducible exact rfl))); (· (simp only [go_sem, reduceIte, Nat.reduceEqDiff]; (try with_reducible exact rfl)))) | ((with_reducible apply Run.callY); (· (simp only [go_sem, reduceIte, Nat.reduceEqDiff]; (try with_reducible exact rfl))); (· (simp only [go_sem, reduceIte, Nat.reduceEqDiff]; (try with_reducible exact rfl))); (· (simp only [go_sem, reduceIte, Nat.reduceEqDiff]; (try with_reducible exact rfl)))) | ((with_reducible apply RunP.callY); (· (simp only [go_sem, reduceIte, Nat.reduceEqDiff]; (try with_reducible exact rfl))); (· (simp only [go_sem, reduceIte, Nat.reduceEqDiff]; (try with_reducible exact rfl))); (· (simp only [go_sem, reduceIte, Nat.reduceEqDiff]; (try with_reducible exact rfl)))) | ((with_reducible apply Run.call0); (· (simp only [go_sem, reduceIte, Nat.reduceEqDiff]; (try with_reducible exact rfl))); (· (simp only [go_sem, reduceIte, Nat.reduceEqDiff]; (try with_reducible exact rfl)))))
        refine sound_use (head0_c s1 hr1.ok hs1) [0, 1] rfl (by decide) (by simp [-List.map_map, embAt, nm, AObj.ren, renL, Val.ren, RS.heap, RS.cells, ev3_ren, ev3_wf, map_u64, map_u64_wf]) (by simp [-List.map_map, wfAll, AObj.wf, wfL, Val.wf, RS.heap, RS.cells, ev3_ren, ev3_wf, map_u64, map_u64_wf]) (by simp [-List.map_map, Val.wf, wfL, RS.heap, RS.cells, ev3_ren, ev3_wf, map_u64, map_u64_wf]) (by simp [-List.map_map, Val.ren, renL, nm, RS.heap, RS.cells, ev3_ren, ev3_wf, map_u64, map_u64_wf]) ?_
        rintro v C' ⟨rfl, rfl⟩
        simp only [merge, place, after, nm, MG, Val.ren, renL, AObj.ren, reduceIte, Nat.reduceLT, Nat.reduceAdd, Nat.reduceSub, Nat.lt_irrefl, Nat.zero_lt_one, Nat.zero_lt_succ, RS.heap, RS.cells, ev3_ren, ev3, map_u64]
        repeat (first
    | ((first | (with_reducible first | apply Aa | apply Ab | apply Ac | apply Ad | apply Ae | apply Af | apply Na | apply Nb) | ((with_reducible first | apply Ag | apply Ah | apply Nc); · (simp only [go_sem, reduceIte, Nat.reduceEqDiff]; (try with_reducible exact rfl)))); · (simp only [go_sem, Int.reduceBEq, Int.reduceBNe, Int.reduceLT, Int.reduceLE, Int.reduceAdd, Int.reduceSub, Int.reduceToNat, reduceIte, Nat.reduceEqDiff, Nat.reduceAdd, Nat.reduceMul, Nat.reduceLeDiff, Nat.reduceSub, reduceCtorEq]; (try simp (disch := omega) only [OM, mn_lo, mn_hi, mx_lo, mx_hi, if_yes, if_no, Option.map_some]); (try with_reducible exact rfl)))
    | ((with_reducible first | apply Ba | apply Bb | apply Bc | apply Bd | apply Be | apply Nd); · (simp only [go_sem, reduceIte, Nat.reduceEqDiff]; (try with_reducible exact rfl))) | ((with_reducible first | apply Ca | apply Cb | apply Cc | apply Cd | apply Ce | apply Ne); · (simp only [go_sem, reduceIte, Nat.reduceEqDiff]; (try with_reducible exact rfl)))
    | ((with_reducible first | apply Dg | apply Dh); (· decide +kernel); (· (simp only [inOrd, List.getElem?_cons_succ, List.getElem?_cons_zero]; exact rfl)))
    | ((with_reducible first | apply De | apply Df); (· decide +kernel); (· (simp only [inOrd, List.getElem?_cons_succ, List.getElem?_cons_zero]; exact rfl)))
    | (with_reducible first | apply Ea | apply Eb | apply Ec | apply Ed | apply Ee | apply Ef | apply Eg | apply Eh | apply Ei | apply Ej | apply Ek | apply El | apply Em | apply En | apply Eo) | ((with_reducible apply Ep); · rfl))
        ((with_reducible apply ei_cond); (· (simp only [go_sem, reduceIte, Nat.reduceEqDiff]; (try with_reducible exact rfl)))) <;> intro hc <;> simp only [decide_eq_true_eq, decide_eq_false_iff_not] at hc
        · repeat (first
    | ((first | (with_reducible first | apply Aa | apply Ab | apply Ac | apply Ad | apply Ae | apply Af | apply Na | apply Nb) | ((with_reducible first | apply Ag | apply Ah | apply Nc); · (simp only [go_sem, reduceIte, Nat.reduceEqDiff]; (try with_reducible exact rfl)))); · (simp only [go_sem, Int.reduceBEq, Int.reduceBNe, Int.reduceLT, Int.reduceLE, Int.reduceAdd, Int.reduceSub, Int.reduceToNat, reduceIte, Nat.reduceEqDiff, Nat.reduceAdd, Nat.reduceMul, Nat.reduceLeDiff, Nat.reduceSub, reduceCtorEq]; (try simp (disch := omega) only [OM, mn_lo, mn_hi, mx_lo, mx_hi, if_yes, if_no, Option.map_some]); (try with_reducible exact rfl)))
    | ((with_reducible first | apply Ba | apply Bb | apply Bc | apply Bd | apply Be | apply Nd); · (simp only [go_sem, reduceIte, Nat.reduceEqDiff]; (try with_reducible exact rfl))) | ((with_reducible first | apply Ca | apply Cb | apply Cc | apply Cd | apply Ce | apply Ne); · (simp only [go_sem, reduceIte, Nat.reduceEqDiff]; (try with_reducible exact rfl)))
    | ((with_reducible first | apply Dg | apply Dh); (· decide +kernel); (· (simp only [inOrd, List.getElem?_cons_succ, List.getElem?_cons_zero]; exact rfl)))
    | ((with_reducible first | apply De | apply Df); (· decide +kernel); (· (simp only [inOrd, List.getElem?_cons_succ, List.getElem?_cons_zero]; exact rfl)))
    | (with_reducible first | apply Ea | apply Eb | apply Ec | apply Ed | apply Ee | apply Ef | apply Eg | apply Eh | apply Ei | apply Ej | apply Ek | apply El | apply Em | apply En | apply Eo) | ((with_reducible apply Ep); · rfl))
          refine told [0, 1] (RS.heap { s1 with shut := false } ++ outH (d.map (·.1))) (outV (d.map (·.1))) (by simp [RS.heap, RS.cells, ev3_ren, ev3_wf, map_u64, map_u64_wf, outH, outV, hdm] <;> fail) (by decide) (by simp [-List.map_map, embAt, nm, AObj.ren, renL, Val.ren, RS.heap, RS.cells, ev3_ren, ev3_wf, map_u64, map_u64_wf, outH, outV, hdm]) (by simp [-List.map_map, wfAll, AObj.wf, wfL, Val.wf, RS.heap, RS.cells, ev3_ren, ev3_wf, map_u64, map_u64_wf, outH, outV, hdm]) (by simp [RS.heap, RS.cells, ev3_ren, ev3_wf, map_u64, map_u64_wf, outH, outV, hdm]) rfl (by simp [-List.map_map, Val.wf, wfL, RS.heap, RS.cells, ev3_ren, ev3_wf, map_u64, map_u64_wf, outH, outV, hdm]) (by simp [-List.map_map, Val.ren, renL, nm, RS.heap, RS.cells, ev3_ren, ev3_wf, map_u64, map_u64_wf, outH, outV, hdm]) ?_
          refine ⟨{ s1 with shut := false }, ?_, congrArg List.length e1, e2, e3, e4, ?_, ?_, ?_, ?_⟩
          · rw [hx.2]; exact ⟨⟨hr1.ok.f0, hr1.ok.f1, hr1.ok.m0, hr1.ok.m1, hr1.ok.len⟩, hr1.many, hr1.at_⟩
          · rw [hx.1]; exact e5
          · rw [hx.2, if_pos (by rw [← hr1.many, ← e1]; exact hc)]
          · rw [hx.1]
          · rw [hx.1]
        · repeat (first
    | ((first | (with_reducible first | apply Aa | apply Ab | apply Ac | apply Ad | apply Ae | apply Af | apply Na | apply Nb) | ((with_reducible first | apply Ag | apply Ah | apply Nc); · (simp only [go_sem, reduceIte, Nat.reduceEqDiff]; (try with_reducible exact rfl)))); · (simp only [go_sem, Int.reduceBEq, Int.reduceBNe, Int.reduceLT, Int.reduceLE, Int.reduceAdd, Int.reduceSub, Int.reduceToNat, reduceIte, Nat.reduceEqDiff, Nat.reduceAdd, Nat.reduceMul, Nat.reduceLeDiff, Nat.reduceSub, reduceCtorEq]; (try simp (disch := omega) only [OM, mn_lo, mn_hi, mx_lo, mx_hi, if_yes, if_no, Option.map_some]); (try with_reducible exact rfl)))
    | ((with_reducible first | apply Ba | apply Bb | apply Bc | apply Bd | apply Be | apply Nd); · (simp only [go_sem, reduceIte, Nat.reduceEqDiff]; (try with_reducible exact rfl))) | ((with_reducible first | apply Ca | apply Cb | apply Cc | apply Cd | apply Ce | apply Ne); · (simp only [go_sem, reduceIte, Nat.reduceEqDiff]; (try with_reducible exact rfl)))
    | ((with_reducible first | apply Dg | apply Dh); (· decide +kernel); (· (simp only [inOrd, List.getElem?_cons_succ, List.getElem?_cons_zero]; exact rfl)))
    | ((with_reducible first | apply De | apply Df); (· decide +kernel); (· (simp only [inOrd, List.getElem?_cons_succ, List.getElem?_cons_zero]; exact rfl)))
    | (with_reducible first | apply Ea | apply Eb | apply Ec | apply Ed | apply Ee | apply Ef | apply Eg | apply Eh | apply Ei | apply Ej | apply Ek | apply El | apply Em | apply En | apply Eo) | ((with_reducible apply Ep); · rfl))
          refine told [0, 1] (RS.heap s1 ++ outH (d.map (·.1))) (outV (d.map (·.1))) (by simp [RS.heap, RS.cells, ev3_ren, ev3_wf, map_u64, map_u64_wf, outH, outV, hdm] <;> fail) (by decide) (by simp [-List.map_map, embAt, nm, AObj.ren, renL, Val.ren, RS.heap, RS.cells, ev3_ren, ev3_wf, map_u64, map_u64_wf, outH, outV, hdm]) (by simp [-List.map_map, wfAll, AObj.wf, wfL, Val.wf, RS.heap, RS.cells, ev3_ren, ev3_wf, map_u64, map_u64_wf, outH, outV, hdm]) (by simp [RS.heap, RS.cells, ev3_ren, ev3_wf, map_u64, map_u64_wf, outH, outV, hdm]) rfl (by simp [-List.map_map, Val.wf, wfL, RS.heap, RS.cells, ev3_ren, ev3_wf, map_u64, map_u64_wf, outH, outV, hdm]) (by simp [-List.map_map, Val.ren, renL, nm, RS.heap, RS.cells, ev3_ren, ev3_wf, map_u64, map_u64_wf, outH, outV, hdm]) ?_
          refine ⟨s1, ?_, congrArg List.length e1, e2, e3, e4, ?_, ?_, ?_, ?_⟩
          · rw [hx.2]; exact hr1
          · rw [hx.1]; exact e5
          · rw [hx.2, if_neg (by rw [← hr1.many, ← e1]; exact hc)]; exact e6
          · rw [hx.1]
          · rw [hx.1]
      | cons x r =>
        have hpos : 0 < s1.many := by rw [hs1, List.length_cons]; omega
        repeat (first
    | ((first | (with_reducible first | apply Aa | apply Ab | apply Ac | apply Ad | apply Ae | apply Af | apply Na | apply Nb) | ((with_reducible first | apply Ag | apply Ah | apply Nc); · (simp only [go_sem, reduceIte, Nat.reduceEqDiff]; (try with_reducible exact rfl)))); · (simp only [go_sem, Int.reduceBEq, Int.reduceBNe, Int.reduceLT, Int.reduceLE, Int.reduceAdd, Int.reduceSub, Int.reduceToNat, reduceIte, Nat.reduceEqDiff, Nat.reduceAdd, Nat.reduceMul, Nat.reduceLeDiff, Nat.reduceSub, reduceCtorEq]; (try simp (disch := omega) only [OM, mn_lo, mn_hi, mx_lo, mx_hi, if_yes, if_no, Option.map_some]); (try with_reducible exact rfl)))
    | ((with_reducible first | apply Ba | apply Bb | apply Bc | apply Bd | apply Be | apply Nd); · (simp only [go_sem, reduceIte, Nat.reduceEqDiff]; (try with_reducible exact rfl))) | ((with_reducible first | apply Ca | apply Cb | apply Cc | apply Cd | apply Ce | apply Ne); · (simp only [go_sem, reduceIte, Nat.reduceEqDiff]; (try with_reducible exact rfl)))
    | ((with_reducible first | apply Dg | apply Dh); (· decide +kernel); (· (simp only [inOrd, List.getElem?_cons_succ, List.getElem?_cons_zero]; exact rfl)))
    | ((with_reducible first | apply De | apply Df); (· decide +kernel); (· (simp only [inOrd, List.getElem?_cons_succ, List.getElem?_cons_zero]; exact rfl)))
    | (with_reducible first | apply Ea | apply Eb | apply Ec | apply Ed | apply Ee | apply Ef | apply Eg | apply Eh | apply Ei | apply Ej | apply Ek | apply El | apply Em | apply En | apply Eo) | ((with_reducible apply Ep); · rfl))
        (first | ((with_reducible apply RunP.call); (· (simp only [go_sem, reduceIte, Nat.reduceEqDiff]; (try with_reducible exact rfl))); (· (simp only [go_sem, reduceIte, Nat.reduceEqDiff]; (try with_reducible exact rfl)))) | ((with_reducible apply Run.call); (· (simp only [go_sem, reduceIte, Nat.reduceEqDiff]; (try with_reducible exact rfl))); (· (simp only [go_sem, reduceIte, Nat.reduceEqDiff]; (try with_reducible exact rfl)))) | ((with_reducible apply Run.callY); (· (simp only [go_sem, reduceIte, Nat.reduceEqDiff]; (try with_reducible exact rfl))); (· (simp only [go_sem, reduceIte, Nat.reduceEqDiff]; (try with_reducible exact rfl))); (· (simp only [go_sem, reduceIte, Nat.reduceEqDiff]; (try with_reducible exact rfl)))) | ((with_reducible apply RunP.callY); (· (simp only [go_sem, reduceIte, Nat.reduceEqDiff]; (try with_reducible exact rfl))); (· (simp only [go_sem, reduceIte, Nat.reduceEqDiff]; (try with_reducible exact rfl))); (· (simp only [go_sem, reduceIte, Nat.reduceEqDiff]; (try with_reducible exact rfl)))) | ((with_reducible apply Run.call0); (· (simp only [go_sem, reduceIte, Nat.reduceEqDiff]; (try with_reducible exact rfl))); (· (simp only [go_sem, reduceIte, Nat.reduceEqDiff]; (try with_reducible exact rfl)))))
        refine sound_use (head_c s1 hr1.ok x hr1.head hpos) [0, 1] rfl (by decide) (by simp [-List.map_map, embAt, nm, AObj.ren, renL, Val.ren, RS.heap, RS.cells, ev3_ren, ev3_wf, map_u64, map_u64_wf]) (by simp [-List.map_map, wfAll, AObj.wf, wfL, Val.wf, RS.heap, RS.cells, ev3_ren, ev3_wf, map_u64, map_u64_wf]) (by simp [-List.map_map, Val.wf, wfL, RS.heap, RS.cells, ev3_ren, ev3_wf, map_u64, map_u64_wf]) (by simp [-List.map_map, Val.ren, renL, nm, RS.heap, RS.cells, ev3_ren, ev3_wf, map_u64, map_u64_wf]) ?_
        rintro v C' ⟨rfl, rfl⟩
        simp only [merge, place, after, nm, MG, Val.ren, renL, AObj.ren, reduceIte, Nat.reduceLT, Nat.reduceAdd, Nat.reduceSub, Nat.lt_irrefl, Nat.zero_lt_one, Nat.zero_lt_succ, RS.heap, RS.cells, ev3_ren, ev3, map_u64]
        repeat (first
    | ((first | (with_reducible first | apply Aa | apply Ab | apply Ac | apply Ad | apply Ae | apply Af | apply Na | apply Nb) | ((with_reducible first | apply Ag | apply Ah | apply Nc); · (simp only [go_sem, reduceIte, Nat.reduceEqDiff]; (try with_reducible exact rfl)))); · (simp only [go_sem, Int.reduceBEq, Int.reduceBNe, Int.reduceLT, Int.reduceLE, Int.reduceAdd, Int.reduceSub, Int.reduceToNat, reduceIte, Nat.reduceEqDiff, Nat.reduceAdd, Nat.reduceMul, Nat.reduceLeDiff, Nat.reduceSub, reduceCtorEq]; (try simp (disch := omega) only [OM, mn_lo, mn_hi, mx_lo, mx_hi, if_yes, if_no, Option.map_some]); (try with_reducible exact rfl)))
    | ((with_reducible first | apply Ba | apply Bb | apply Bc | apply Bd | apply Be | apply Nd); · (simp only [go_sem, reduceIte, Nat.reduceEqDiff]; (try with_reducible exact rfl))) | ((with_reducible first | apply Ca | apply Cb | apply Cc | apply Cd | apply Ce | apply Ne); · (simp only [go_sem, reduceIte, Nat.reduceEqDiff]; (try with_reducible exact rfl)))
    | ((with_reducible first | apply Dg | apply Dh); (· decide +kernel); (· (simp only [inOrd, List.getElem?_cons_succ, List.getElem?_cons_zero]; exact rfl)))
    | ((with_reducible first | apply De | apply Df); (· decide +kernel); (· (simp only [inOrd, List.getElem?_cons_succ, List.getElem?_cons_zero]; exact rfl)))
    | (with_reducible first | apply Ea | apply Eb | apply Ec | apply Ed | apply Ee | apply Ef | apply Eg | apply Eh | apply Ei | apply Ej | apply Ek | apply El | apply Em | apply En | apply Eo) | ((with_reducible apply Ep); · rfl))
        ((with_reducible apply ei_cond); (· (simp only [go_sem, reduceIte, Nat.reduceEqDiff]; (try with_reducible exact rfl)))) <;> intro hq <;> simp only [decide_eq_true_eq, decide_eq_false_iff_not] at hq
        · have hx := ended_app (c := mxi s.clock now) (r := x :: r) hd (fun y hy => by cases hy; rw [← e3]; omega)
          repeat (first
    | ((first | (with_reducible first | apply Aa | apply Ab | apply Ac | apply Ad | apply Ae | apply Af | apply Na | apply Nb) | ((with_reducible first | apply Ag | apply Ah | apply Nc); · (simp only [go_sem, reduceIte, Nat.reduceEqDiff]; (try with_reducible exact rfl)))); · (simp only [go_sem, Int.reduceBEq, Int.reduceBNe, Int.reduceLT, Int.reduceLE, Int.reduceAdd, Int.reduceSub, Int.reduceToNat, reduceIte, Nat.reduceEqDiff, Nat.reduceAdd, Nat.reduceMul, Nat.reduceLeDiff, Nat.reduceSub, reduceCtorEq]; (try simp (disch := omega) only [OM, mn_lo, mn_hi, mx_lo, mx_hi, if_yes, if_no, Option.map_some]); (try with_reducible exact rfl)))
    | ((with_reducible first | apply Ba | apply Bb | apply Bc | apply Bd | apply Be | apply Nd); · (simp only [go_sem, reduceIte, Nat.reduceEqDiff]; (try with_reducible exact rfl))) | ((with_reducible first | apply Ca | apply Cb | apply Cc | apply Cd | apply Ce | apply Ne); · (simp only [go_sem, reduceIte, Nat.reduceEqDiff]; (try with_reducible exact rfl)))
    | ((with_reducible first | apply Dg | apply Dh); (· decide +kernel); (· (simp only [inOrd, List.getElem?_cons_succ, List.getElem?_cons_zero]; exact rfl)))
    | ((with_reducible first | apply De | apply Df); (· decide +kernel); (· (simp only [inOrd, List.getElem?_cons_succ, List.getElem?_cons_zero]; exact rfl)))
    | (with_reducible first | apply Ea | apply Eb | apply Ec | apply Ed | apply Ee | apply Ef | apply Eg | apply Eh | apply Ei | apply Ej | apply Ek | apply El | apply Em | apply En | apply Eo) | ((with_reducible apply Ep); · rfl))
          ((with_reducible apply ei_cond); (· (simp only [go_sem, reduceIte, Nat.reduceEqDiff]; (try with_reducible exact rfl)))) <;> intro hc <;> simp only [decide_eq_true_eq, decide_eq_false_iff_not] at hc
          · repeat (first
    | ((first | (with_reducible first | apply Aa | apply Ab | apply Ac | apply Ad | apply Ae | apply Af | apply Na | apply Nb) | ((with_reducible first | apply Ag | apply Ah | apply Nc); · (simp only [go_sem, reduceIte, Nat.reduceEqDiff]; (try with_reducible exact rfl)))); · (simp only [go_sem, Int.reduceBEq, Int.reduceBNe, Int.reduceLT, Int.reduceLE, Int.reduceAdd, Int.reduceSub, Int.reduceToNat, reduceIte, Nat.reduceEqDiff, Nat.reduceAdd, Nat.reduceMul, Nat.reduceLeDiff, Nat.reduceSub, reduceCtorEq]; (try simp (disch := omega) only [OM, mn_lo, mn_hi, mx_lo, mx_hi, if_yes, if_no, Option.map_some]); (try with_reducible exact rfl)))
    | ((with_reducible first | apply Ba | apply Bb | apply Bc | apply Bd | apply Be | apply Nd); · (simp only [go_sem, reduceIte, Nat.reduceEqDiff]; (try with_reducible exact rfl))) | ((with_reducible first | apply Ca | apply Cb | apply Cc | apply Cd | apply Ce | apply Ne); · (simp only [go_sem, reduceIte, Nat.reduceEqDiff]; (try with_reducible exact rfl)))
    | ((with_reducible first | apply Dg | apply Dh); (· decide +kernel); (· (simp only [inOrd, List.getElem?_cons_succ, List.getElem?_cons_zero]; exact rfl)))
    | ((with_reducible first | apply De | apply Df); (· decide +kernel); (· (simp only [inOrd, List.getElem?_cons_succ, List.getElem?_cons_zero]; exact rfl)))
    | (with_reducible first | apply Ea | apply Eb | apply Ec | apply Ed | apply Ee | apply Ef | apply Eg | apply Eh | apply Ei | apply Ej | apply Ek | apply El | apply Em | apply En | apply Eo) | ((with_reducible apply Ep); · rfl))
            refine told [0, 1] (RS.heap { s1 with shut := false } ++ outH (d.map (·.1))) (outV (d.map (·.1))) (by simp [RS.heap, RS.cells, ev3_ren, ev3_wf, map_u64, map_u64_wf, outH, outV, hdm] <;> fail) (by decide) (by simp [-List.map_map, embAt, nm, AObj.ren, renL, Val.ren, RS.heap, RS.cells, ev3_ren, ev3_wf, map_u64, map_u64_wf, outH, outV, hdm]) (by simp [-List.map_map, wfAll, AObj.wf, wfL, Val.wf, RS.heap, RS.cells, ev3_ren, ev3_wf, map_u64, map_u64_wf, outH, outV, hdm]) (by simp [RS.heap, RS.cells, ev3_ren, ev3_wf, map_u64, map_u64_wf, outH, outV, hdm]) rfl (by simp [-List.map_map, Val.wf, wfL, RS.heap, RS.cells, ev3_ren, ev3_wf, map_u64, map_u64_wf, outH, outV, hdm]) (by simp [-List.map_map, Val.ren, renL, nm, RS.heap, RS.cells, ev3_ren, ev3_wf, map_u64, map_u64_wf, outH, outV, hdm]) ?_
            refine ⟨{ s1 with shut := false }, ?_, congrArg List.length e1, e2, e3, e4, ?_, ?_, ?_, ?_⟩
            · rw [hx.2]; exact ⟨⟨hr1.ok.f0, hr1.ok.f1, hr1.ok.m0, hr1.ok.m1, hr1.ok.len⟩, hr1.many, hr1.at_⟩
            · rw [hx.1]; exact e5
            · rw [hx.2, if_pos (by rw [← hr1.many, ← e1]; exact hc)]
            · rw [hx.1]
            · rw [hx.1]
          · repeat (first
    | ((first | (with_reducible first | apply Aa | apply Ab | apply Ac | apply Ad | apply Ae | apply Af | apply Na | apply Nb) | ((with_reducible first | apply Ag | apply Ah | apply Nc); · (simp only [go_sem, reduceIte, Nat.reduceEqDiff]; (try with_reducible exact rfl)))); · (simp only [go_sem, Int.reduceBEq, Int.reduceBNe, Int.reduceLT, Int.reduceLE, Int.reduceAdd, Int.reduceSub, Int.reduceToNat, reduceIte, Nat.reduceEqDiff, Nat.reduceAdd, Nat.reduceMul, Nat.reduceLeDiff, Nat.reduceSub, reduceCtorEq]; (try simp (disch := omega) only [OM, mn_lo, mn_hi, mx_lo, mx_hi, if_yes, if_no, Option.map_some]); (try with_reducible exact rfl)))
    | ((with_reducible first | apply Ba | apply Bb | apply Bc | apply Bd | apply Be | apply Nd); · (simp only [go_sem, reduceIte, Nat.reduceEqDiff]; (try with_reducible exact rfl))) | ((with_reducible first | apply Ca | apply Cb | apply Cc | apply Cd | apply Ce | apply Ne); · (simp only [go_sem, reduceIte, Nat.reduceEqDiff]; (try with_reducible exact rfl)))
    | ((with_reducible first | apply Dg | apply Dh); (· decide +kernel); (· (simp only [inOrd, List.getElem?_cons_succ, List.getElem?_cons_zero]; exact rfl)))
    | ((with_reducible first | apply De | apply Df); (· decide +kernel); (· (simp only [inOrd, List.getElem?_cons_succ, List.getElem?_cons_zero]; exact rfl)))
    | (with_reducible first | apply Ea | apply Eb | apply Ec | apply Ed | apply Ee | apply Ef | apply Eg | apply Eh | apply Ei | apply Ej | apply Ek | apply El | apply Em | apply En | apply Eo) | ((with_reducible apply Ep); · rfl))
            refine told [0, 1] (RS.heap s1 ++ outH (d.map (·.1))) (outV (d.map (·.1))) (by simp [RS.heap, RS.cells, ev3_ren, ev3_wf, map_u64, map_u64_wf, outH, outV, hdm] <;> fail) (by decide) (by simp [-List.map_map, embAt, nm, AObj.ren, renL, Val.ren, RS.heap, RS.cells, ev3_ren, ev3_wf, map_u64, map_u64_wf, outH, outV, hdm]) (by simp [-List.map_map, wfAll, AObj.wf, wfL, Val.wf, RS.heap, RS.cells, ev3_ren, ev3_wf, map_u64, map_u64_wf, outH, outV, hdm]) (by simp [RS.heap, RS.cells, ev3_ren, ev3_wf, map_u64, map_u64_wf, outH, outV, hdm]) rfl (by simp [-List.map_map, Val.wf, wfL, RS.heap, RS.cells, ev3_ren, ev3_wf, map_u64, map_u64_wf, outH, outV, hdm]) (by simp [-List.map_map, Val.ren, renL, nm, RS.heap, RS.cells, ev3_ren, ev3_wf, map_u64, map_u64_wf, outH, outV, hdm]) ?_
            refine ⟨s1, ?_, congrArg List.length e1, e2, e3, e4, ?_, ?_, ?_, ?_⟩
            · rw [hx.2]; exact hr1
            · rw [hx.1]; exact e5
            · rw [hx.2, if_neg (by rw [← hr1.many, ← e1]; exact hc)]; exact e6
            · rw [hx.1]
            · rw [hx.1]
        · repeat (first
    | ((first | (with_reducible first | apply Aa | apply Ab | apply Ac | apply Ad | apply Ae | apply Af | apply Na | apply Nb) | ((with_reducible first | apply Ag | apply Ah | apply Nc); · (simp only [go_sem, reduceIte, Nat.reduceEqDiff]; (try with_reducible exact rfl)))); · (simp only [go_sem, Int.reduceBEq, Int.reduceBNe, Int.reduceLT, Int.reduceLE, Int.reduceAdd, Int.reduceSub, Int.reduceToNat, reduceIte, Nat.reduceEqDiff, Nat.reduceAdd, Nat.reduceMul, Nat.reduceLeDiff, Nat.reduceSub, reduceCtorEq]; (try simp (disch := omega) only [OM, mn_lo, mn_hi, mx_lo, mx_hi, if_yes, if_no, Option.map_some]); (try with_reducible exact rfl)))
    | ((with_reducible first | apply Ba | apply Bb | apply Bc | apply Bd | apply Be | apply Nd); · (simp only [go_sem, reduceIte, Nat.reduceEqDiff]; (try with_reducible exact rfl))) | ((with_reducible first | apply Ca | apply Cb | apply Cc | apply Cd | apply Ce | apply Ne); · (simp only [go_sem, reduceIte, Nat.reduceEqDiff]; (try with_reducible exact rfl)))
    | ((with_reducible first | apply Dg | apply Dh); (· decide +kernel); (· (simp only [inOrd, List.getElem?_cons_succ, List.getElem?_cons_zero]; exact rfl)))
    | ((with_reducible first | apply De | apply Df); (· decide +kernel); (· (simp only [inOrd, List.getElem?_cons_succ, List.getElem?_cons_zero]; exact rfl)))
    | (with_reducible first | apply Ea | apply Eb | apply Ec | apply Ed | apply Ee | apply Ef | apply Eg | apply Eh | apply Ei | apply Ej | apply Ek | apply El | apply Em | apply En | apply Eo) | ((with_reducible apply Ep); · rfl))
          (first | ((with_reducible apply RunP.call); (· (simp only [go_sem, reduceIte, Nat.reduceEqDiff]; (try with_reducible exact rfl))); (· (simp only [go_sem, reduceIte, Nat.reduceEqDiff]; (try with_reducible exact rfl)))) | ((with_reducible apply Run.call); (· (simp only [go_sem, reduceIte, Nat.reduceEqDiff]; (try with_reducible exact rfl))); (· (simp only [go_sem, reduceIte, Nat.reduceEqDiff]; (try with_reducible exact rfl)))) | ((with_reducible apply Run.callY); (· (simp only [go_sem, reduceIte, Nat.reduceEqDiff]; (try with_reducible exact rfl))); (· (simp only [go_sem, reduceIte, Nat.reduceEqDiff]; (try with_reducible exact rfl))); (· (simp only [go_sem, reduceIte, Nat.reduceEqDiff]; (try with_reducible exact rfl)))) | ((with_reducible apply RunP.callY); (· (simp only [go_sem, reduceIte, Nat.reduceEqDiff]; (try with_reducible exact rfl))); (· (simp only [go_sem, reduceIte, Nat.reduceEqDiff]; (try with_reducible exact rfl))); (· (simp only [go_sem, reduceIte, Nat.reduceEqDiff]; (try with_reducible exact rfl)))) | ((with_reducible apply Run.call0); (· (simp only [go_sem, reduceIte, Nat.reduceEqDiff]; (try with_reducible exact rfl))); (· (simp only [go_sem, reduceIte, Nat.reduceEqDiff]; (try with_reducible exact rfl)))))
          refine sound_use (pop_c s1 hr1.ok hpos) [0, 1] rfl (by decide) (by simp [-List.map_map, embAt, nm, AObj.ren, renL, Val.ren, RS.heap, RS.cells, ev3_ren, ev3_wf, map_u64, map_u64_wf]) (by simp [-List.map_map, wfAll, AObj.wf, wfL, Val.wf, RS.heap, RS.cells, ev3_ren, ev3_wf, map_u64, map_u64_wf]) (by simp [-List.map_map, Val.wf, wfL, RS.heap, RS.cells, ev3_ren, ev3_wf, map_u64, map_u64_wf]) (by simp [-List.map_map, Val.ren, renL, nm, RS.heap, RS.cells, ev3_ren, ev3_wf, map_u64, map_u64_wf]) ?_
          rintro v C' ⟨rfl, rfl⟩
          simp only [merge, place, after, nm, MG, Val.ren, renL, AObj.ren, reduceIte, Nat.reduceLT, Nat.reduceAdd, Nat.reduceSub, Nat.lt_irrefl, Nat.zero_lt_one, Nat.zero_lt_succ, RS.heap, RS.cells, ev3_ren, ev3, map_u64]
          repeat (first
    | ((first | (with_reducible first | apply Aa | apply Ab | apply Ac | apply Ad | apply Ae | apply Af | apply Na | apply Nb) | ((with_reducible first | apply Ag | apply Ah | apply Nc); · (simp only [go_sem, reduceIte, Nat.reduceEqDiff, take_map2, List.length_map, Nat.mul_one]; (try with_reducible exact rfl)))); · (simp only [go_sem, Int.reduceBEq, Int.reduceBNe, Int.reduceLT, Int.reduceLE, Int.reduceAdd, Int.reduceSub, Int.reduceToNat, reduceIte, Nat.reduceEqDiff, Nat.reduceAdd, Nat.reduceMul, Nat.reduceLeDiff, Nat.reduceSub, reduceCtorEq, take_map2, List.length_map, Nat.mul_one]; (try simp (disch := omega) only [OM, mn_lo, mn_hi, mx_lo, mx_hi, if_yes, if_no, Option.map_some, take_map2, List.length_map, Nat.mul_one]); (try with_reducible exact rfl)))
    | ((with_reducible first | apply Ba | apply Bb | apply Bc | apply Bd | apply Be | apply Nd); · (simp only [go_sem, reduceIte, Nat.reduceEqDiff, take_map2, List.length_map, Nat.mul_one]; (try with_reducible exact rfl))) | ((with_reducible first | apply Ca | apply Cb | apply Cc | apply Cd | apply Ce | apply Ne); · (simp only [go_sem, reduceIte, Nat.reduceEqDiff, take_map2, List.length_map, Nat.mul_one]; (try with_reducible exact rfl)))
    | ((with_reducible first | apply Dg | apply Dh); (· decide +kernel); (· (simp only [inOrd, List.getElem?_cons_succ, List.getElem?_cons_zero]; exact rfl)))
    | ((with_reducible first | apply De | apply Df); (· decide +kernel); (· (simp only [inOrd, List.getElem?_cons_succ, List.getElem?_cons_zero]; exact rfl)))
    | (with_reducible first | apply Ea | apply Eb | apply Ec | apply Ed | apply Ee | apply Ef | apply Eg | apply Eh | apply Ei | apply Ej | apply Ek | apply El | apply Em | apply En | apply Eo) | ((with_reducible apply Ep); · rfl))
          have hp := hr1.pop
          refine ⟨r.length, by simp, d ++ [x], r, { s1 with first := (s1.first + 1) % s1.l.length, many := s1.many - 1, bytes := IntKind.u64.wrap (s1.bytes - IntKind.u64.wrap x.2.1) }, by simp, rfl, ?_, ⟨⟨hp.ok.f0, hp.ok.f1, hp.ok.m0, hp.ok.m1, hp.ok.len⟩, hp.many, hp.at_⟩, e1, e2, e3, e4, ?_, e6, ?_⟩
          · intro y hy
            rcases List.mem_append.1 hy with hy | hy
            · exact hd y hy
            · rw [List.mem_singleton] at hy; subst hy; rw [← e3]; omega
          · rw [subB_snoc, ← e5]
          · refine anew [0, 1, 4] (by simp [RS.heap, RS.cells, ev3_ren, ev3_wf, map_u64, map_u64_wf, outH, outV, hd0] <;> fail) (by decide) (by simp [-List.map_map, embAt, nm, AObj.ren, renL, Val.ren, RS.heap, RS.cells, ev3_ren, ev3_wf, map_u64, map_u64_wf, outH, outV, hd0]) (by simp [-List.map_map, wfAll, AObj.wf, wfL, Val.wf, RS.heap, RS.cells, ev3_ren, ev3_wf, map_u64, map_u64_wf, outH, outV, hd0]) (by simp [RS.heap, RS.cells, ev3_ren, ev3_wf, map_u64, map_u64_wf, outH, outV, hd0]) rfl (by simp [-List.map_map, Val.wf, wfL, RS.heap, RS.cells, ev3_ren, ev3_wf, map_u64, map_u64_wf, outH, outV, hd0]) (by simp [-List.map_map, Env.get, Val.ren, renL, nm, initEnv, RS.heap, RS.cells, ev3_ren, ev3_wf, map_u64, map_u64_wf, outH, outV, hd0])
    · have hd1 : d.map (fun x => x.1) ≠ [] := by simpa using hd0
      have hdm : (d.map (fun x => x.1) = []) = False := by simpa using hd0
      simp only [outV, outH, hdm, if_false, List.cons_append, List.nil_append, RS.heap, RS.cells, List.length_map]
      cases r with
      | nil =>
        have hx := ended_app (c := mxi s.clock now) (r := []) hd (fun x hx => by cases hx)
        rw [List.append_nil] at hx
        repeat (first
    | ((first | (with_reducible first | apply Aa | apply Ab | apply Ac | apply Ad | apply Ae | apply Af | apply Na | apply Nb) | ((with_reducible first | apply Ag | apply Ah | apply Nc); · (simp only [go_sem, reduceIte, Nat.reduceEqDiff]; (try with_reducible exact rfl)))); · (simp only [go_sem, Int.reduceBEq, Int.reduceBNe, Int.reduceLT, Int.reduceLE, Int.reduceAdd, Int.reduceSub, Int.reduceToNat, reduceIte, Nat.reduceEqDiff, Nat.reduceAdd, Nat.reduceMul, Nat.reduceLeDiff, Nat.reduceSub, reduceCtorEq]; (try simp (disch := omega) only [OM, mn_lo, mn_hi, mx_lo, mx_hi, if_yes, if_no, Option.map_some]); (try with_reducible exact rfl)))
    | ((with_reducible first | apply Ba | apply Bb | apply Bc | apply Bd | apply Be | apply Nd); · (simp only [go_sem, reduceIte, Nat.reduceEqDiff]; (try with_reducible exact rfl))) | ((with_reducible first | apply Ca | apply Cb | apply Cc | apply Cd | apply Ce | apply Ne); · (simp only [go_sem, reduceIte, Nat.reduceEqDiff]; (try with_reducible exact rfl)))
    | ((with_reducible first | apply Dg | apply Dh); (· decide +kernel); (· (simp only [inOrd, List.getElem?_cons_succ, List.getElem?_cons_zero]; exact rfl)))
    | ((with_reducible first | apply De | apply Df); (· decide +kernel); (· (simp only [inOrd, List.getElem?_cons_succ, List.getElem?_cons_zero]; exact rfl)))
    | (with_reducible first | apply Ea | apply Eb | apply Ec | apply Ed | apply Ee | apply Ef | apply Eg | apply Eh | apply Ei | apply Ej | apply Ek | apply El | apply Em | apply En | apply Eo) | ((with_reducible apply Ep); · rfl))
        (first | ((with_reducible apply RunP.call); (· (simp only [go_sem, reduceIte, Nat.reduceEqDiff]; (try with_reducible exact rfl))); (· (simp only [go_sem, reduceIte, Nat.reduceEqDiff]; (try with_reducible exact rfl)))) | ((with_reducible apply Run.call); (· (simp only [go_sem, reduceIte, Nat.reduceEqDiff]; (try with_reducible exact rfl))); (· (simp only [go_sem, reduceIte, Nat.reduceEqDiff]; (try with_reducible exact rfl)))) | ((with_reducible apply Run.callY); (· (simp only [go_sem, reduceIte, Nat.reduceEqDiff]; (try with_reducible exact rfl))); (· (simp only [go_sem, reduceIte, Nat.reduceEqDiff]; (try with_reducible exact rfl))); (· (simp only [go_sem, reduceIte, Nat.reduceEqDiff]; (try with_reducible exact rfl)))) | ((with_reducible apply RunP.callY); (· (simp only [go_sem, reduceIte, Nat.reduceEqDiff]; (try with_reducible exact rfl))); (· (simp only [go_sem, reduceIte, Nat.reduceEqDiff]; (try with_reducible exact rfl))); (· (simp only [go_sem, reduceIte, Nat.reduceEqDiff]; (try with_reducible exact rfl)))) | ((with_reducible apply Run.call0); (· (simp only [go_sem, reduceIte, Nat.reduceEqDiff]; (try with_reducible exact rfl))); (· (simp only [go_sem, reduceIte, Nat.reduceEqDiff]; (try with_reducible exact rfl)))))
        refine sound_use (head0_c s1 hr1.ok hs1) [0, 1] rfl (by decide) (by simp [-List.map_map, embAt, nm, AObj.ren, renL, Val.ren, RS.heap, RS.cells, ev3_ren, ev3_wf, map_u64, map_u64_wf]) (by simp [-List.map_map, wfAll, AObj.wf, wfL, Val.wf, RS.heap, RS.cells, ev3_ren, ev3_wf, map_u64, map_u64_wf]) (by simp [-List.map_map, Val.wf, wfL, RS.heap, RS.cells, ev3_ren, ev3_wf, map_u64, map_u64_wf]) (by simp [-List.map_map, Val.ren, renL, nm, RS.heap, RS.cells, ev3_ren, ev3_wf, map_u64, map_u64_wf]) ?_
        rintro v C' ⟨rfl, rfl⟩
        simp only [merge, place, after, nm, MG, Val.ren, renL, AObj.ren, reduceIte, Nat.reduceLT, Nat.reduceAdd, Nat.reduceSub, Nat.lt_irrefl, Nat.zero_lt_one, Nat.zero_lt_succ, RS.heap, RS.cells, ev3_ren, ev3, map_u64]
        repeat (first
    | ((first | (with_reducible first | apply Aa | apply Ab | apply Ac | apply Ad | apply Ae | apply Af | apply Na | apply Nb) | ((with_reducible first | apply Ag | apply Ah | apply Nc); · (simp only [go_sem, reduceIte, Nat.reduceEqDiff]; (try with_reducible exact rfl)))); · (simp only [go_sem, Int.reduceBEq, Int.reduceBNe, Int.reduceLT, Int.reduceLE, Int.reduceAdd, Int.reduceSub, Int.reduceToNat, reduceIte, Nat.reduceEqDiff, Nat.reduceAdd, Nat.reduceMul, Nat.reduceLeDiff, Nat.reduceSub, reduceCtorEq]; (try simp (disch := omega) only [OM, mn_lo, mn_hi, mx_lo, mx_hi, if_yes, if_no, Option.map_some]); (try with_reducible exact rfl)))
    | ((with_reducible first | apply Ba | apply Bb | apply Bc | apply Bd | apply Be | apply Nd); · (simp only [go_sem, reduceIte, Nat.reduceEqDiff]; (try with_reducible exact rfl))) | ((with_reducible first | apply Ca | apply Cb | apply Cc | apply Cd | apply Ce | apply Ne); · (simp only [go_sem, reduceIte, Nat.reduceEqDiff]; (try with_reducible exact rfl)))
    | ((with_reducible first | apply Dg | apply Dh); (· decide +kernel); (· (simp only [inOrd, List.getElem?_cons_succ, List.getElem?_cons_zero]; exact rfl)))
    | ((with_reducible first | apply De | apply Df); (· decide +kernel); (· (simp only [inOrd, List.getElem?_cons_succ, List.getElem?_cons_zero]; exact rfl)))
    | (with_reducible first | apply Ea | apply Eb | apply Ec | apply Ed | apply Ee | apply Ef | apply Eg | apply Eh | apply Ei | apply Ej | apply Ek | apply El | apply Em | apply En | apply Eo) | ((with_reducible apply Ep); · rfl))
        ((with_reducible apply ei_cond); (· (simp only [go_sem, reduceIte, Nat.reduceEqDiff]; (try with_reducible exact rfl)))) <;> intro hc <;> simp only [decide_eq_true_eq, decide_eq_false_iff_not] at hc
        · repeat (first
    | ((first | (with_reducible first | apply Aa | apply Ab | apply Ac | apply Ad | apply Ae | apply Af | apply Na | apply Nb) | ((with_reducible first | apply Ag | apply Ah | apply Nc); · (simp only [go_sem, reduceIte, Nat.reduceEqDiff]; (try with_reducible exact rfl)))); · (simp only [go_sem, Int.reduceBEq, Int.reduceBNe, Int.reduceLT, Int.reduceLE, Int.reduceAdd, Int.reduceSub, Int.reduceToNat, reduceIte, Nat.reduceEqDiff, Nat.reduceAdd, Nat.reduceMul, Nat.reduceLeDiff, Nat.reduceSub, reduceCtorEq]; (try simp (disch := omega) only [OM, mn_lo, mn_hi, mx_lo, mx_hi, if_yes, if_no, Option.map_some]); (try with_reducible exact rfl)))
    | ((with_reducible first | apply Ba | apply Bb | apply Bc | apply Bd | apply Be | apply Nd); · (simp only [go_sem, reduceIte, Nat.reduceEqDiff]; (try with_reducible exact rfl))) | ((with_reducible first | apply Ca | apply Cb | apply Cc | apply Cd | apply Ce | apply Ne); · (simp only [go_sem, reduceIte, Nat.reduceEqDiff]; (try with_reducible exact rfl)))
    | ((with_reducible first | apply Dg | apply Dh); (· decide +kernel); (· (simp only [inOrd, List.getElem?_cons_succ, List.getElem?_cons_zero]; exact rfl)))
    | ((with_reducible first | apply De | apply Df); (· decide +kernel); (· (simp only [inOrd, List.getElem?_cons_succ, List.getElem?_cons_zero]; exact rfl)))
    | (with_reducible first | apply Ea | apply Eb | apply Ec | apply Ed | apply Ee | apply Ef | apply Eg | apply Eh | apply Ei | apply Ej | apply Ek | apply El | apply Em | apply En | apply Eo) | ((with_reducible apply Ep); · rfl))
          refine told [0, 1, 2] (RS.heap { s1 with shut := false } ++ outH (d.map (·.1))) (outV (d.map (·.1))) (by simp [RS.heap, RS.cells, ev3_ren, ev3_wf, map_u64, map_u64_wf, outH, outV, hdm] <;> fail) (by decide) (by simp [-List.map_map, embAt, nm, AObj.ren, renL, Val.ren, RS.heap, RS.cells, ev3_ren, ev3_wf, map_u64, map_u64_wf, outH, outV, hdm]) (by simp [-List.map_map, wfAll, AObj.wf, wfL, Val.wf, RS.heap, RS.cells, ev3_ren, ev3_wf, map_u64, map_u64_wf, outH, outV, hdm]) (by simp [RS.heap, RS.cells, ev3_ren, ev3_wf, map_u64, map_u64_wf, outH, outV, hdm]) rfl (by simp [-List.map_map, Val.wf, wfL, RS.heap, RS.cells, ev3_ren, ev3_wf, map_u64, map_u64_wf, outH, outV, hdm]) (by simp [-List.map_map, Val.ren, renL, nm, RS.heap, RS.cells, ev3_ren, ev3_wf, map_u64, map_u64_wf, outH, outV, hdm]) ?_
          refine ⟨{ s1 with shut := false }, ?_, congrArg List.length e1, e2, e3, e4, ?_, ?_, ?_, ?_⟩
          · rw [hx.2]; exact ⟨⟨hr1.ok.f0, hr1.ok.f1, hr1.ok.m0, hr1.ok.m1, hr1.ok.len⟩, hr1.many, hr1.at_⟩
          · rw [hx.1]; exact e5
          · rw [hx.2, if_pos (by rw [← hr1.many, ← e1]; exact hc)]
          · rw [hx.1]
          · rw [hx.1]
        · repeat (first
    | ((first | (with_reducible first | apply Aa | apply Ab | apply Ac | apply Ad | apply Ae | apply Af | apply Na | apply Nb) | ((with_reducible first | apply Ag | apply Ah | apply Nc); · (simp only [go_sem, reduceIte, Nat.reduceEqDiff]; (try with_reducible exact rfl)))); · (simp only [go_sem, Int.reduceBEq, Int.reduceBNe, Int.reduceLT, Int.reduceLE, Int.reduceAdd, Int.reduceSub, Int.reduceToNat, reduceIte, Nat.reduceEqDiff, Nat.reduceAdd, Nat.reduceMul, Nat.reduceLeDiff, Nat.reduceSub, reduceCtorEq]; (try simp (disch := omega) only [OM, mn_lo, mn_hi, mx_lo, mx_hi, if_yes, if_no, Option.map_some]); (try with_reducible exact rfl)))
    | ((with_reducible first | apply Ba | apply Bb | apply Bc | apply Bd | apply Be | apply Nd); · (simp only [go_sem, reduceIte, Nat.reduceEqDiff]; (try with_reducible exact rfl))) | ((with_reducible first | apply Ca | apply Cb | apply Cc | apply Cd | apply Ce | apply Ne); · (simp only [go_sem, reduceIte, Nat.reduceEqDiff]; (try with_reducible exact rfl)))
    | ((with_reducible first | apply Dg | apply Dh); (· decide +kernel); (· (simp only [inOrd, List.getElem?_cons_succ, List.getElem?_cons_zero]; exact rfl)))
    | ((with_reducible first | apply De | apply Df); (· decide +kernel); (· (simp only [inOrd, List.getElem?_cons_succ, List.getElem?_cons_zero]; exact rfl)))
    | (with_reducible first | apply Ea | apply Eb | apply Ec | apply Ed | apply Ee | apply Ef | apply Eg | apply Eh | apply Ei | apply Ej | apply Ek | apply El | apply Em | apply En | apply Eo) | ((with_reducible apply Ep); · rfl))
          refine told [0, 1, 2] (RS.heap s1 ++ outH (d.map (·.1))) (outV (d.map (·.1))) (by simp [RS.heap, RS.cells, ev3_ren, ev3_wf, map_u64, map_u64_wf, outH, outV, hdm] <;> fail) (by decide) (by simp [-List.map_map, embAt, nm, AObj.ren, renL, Val.ren, RS.heap, RS.cells, ev3_ren, ev3_wf, map_u64, map_u64_wf, outH, outV, hdm]) (by simp [-List.map_map, wfAll, AObj.wf, wfL, Val.wf, RS.heap, RS.cells, ev3_ren, ev3_wf, map_u64, map_u64_wf, outH, outV, hdm]) (by simp [RS.heap, RS.cells, ev3_ren, ev3_wf, map_u64, map_u64_wf, outH, outV, hdm]) rfl (by simp [-List.map_map, Val.wf, wfL, RS.heap, RS.cells, ev3_ren, ev3_wf, map_u64, map_u64_wf, outH, outV, hdm]) (by simp [-List.map_map, Val.ren, renL, nm, RS.heap, RS.cells, ev3_ren, ev3_wf, map_u64, map_u64_wf, outH, outV, hdm]) ?_
          refine ⟨s1, ?_, congrArg List.length e1, e2, e3, e4, ?_, ?_, ?_, ?_⟩
          · rw [hx.2]; exact hr1
          · rw [hx.1]; exact e5
          · rw [hx.2, if_neg (by rw [← hr1.many, ← e1]; exact hc)]; exact e6
          · rw [hx.1]
          · rw [hx.1]
      | cons x r =>
        have hpos : 0 < s1.many := by rw [hs1, List.length_cons]; omega
        repeat (first
    | ((first | (with_reducible first | apply Aa | apply Ab | apply Ac | apply Ad | apply Ae | apply Af | apply Na | apply Nb) | ((with_reducible first | apply Ag | apply Ah | apply Nc); · (simp only [go_sem, reduceIte, Nat.reduceEqDiff]; (try with_reducible exact rfl)))); · (simp only [go_sem, Int.reduceBEq, Int.reduceBNe, Int.reduceLT, Int.reduceLE, Int.reduceAdd, Int.reduceSub, Int.reduceToNat, reduceIte, Nat.reduceEqDiff, Nat.reduceAdd, Nat.reduceMul, Nat.reduceLeDiff, Nat.reduceSub, reduceCtorEq]; (try simp (disch := omega) only [OM, mn_lo, mn_hi, mx_lo, mx_hi, if_yes, if_no, Option.map_some]); (try with_reducible exact rfl)))
    | ((with_reducible first | apply Ba | apply Bb | apply Bc | apply Bd | apply Be | apply Nd); · (simp only [go_sem, reduceIte, Nat.reduceEqDiff]; (try with_reducible exact rfl))) | ((with_reducible first | apply Ca | apply Cb | apply Cc | apply Cd | apply Ce | apply Ne); · (simp only [go_sem, reduceIte, Nat.reduceEqDiff]; (try with_reducible exact rfl)))
    | ((with_reducible first | apply Dg | apply Dh); (· decide +kernel); (· (simp only [inOrd, List.getElem?_cons_succ, List.getElem?_cons_zero]; exact rfl)))
    | ((with_reducible first | apply De | apply Df); (· decide +kernel); (· (simp only [inOrd, List.getElem?_cons_succ, List.getElem?_cons_zero]; exact rfl)))
    | (with_reducible first | apply Ea | apply Eb | apply Ec | apply Ed | apply Ee | apply Ef | apply Eg | apply Eh | apply Ei | apply Ej | apply Ek | apply El | apply Em | apply En | apply Eo) | ((with_reducible apply Ep); · rfl))
        (first | ((with_reducible apply RunP.call); (· (simp only [go_sem, reduceIte, Nat.reduceEqDiff]; (try with_reducible exact rfl))); (· (simp only [go_sem, reduceIte, Nat.reduceEqDiff]; (try with_reducible exact rfl)))) | ((with_reducible apply Run.call); (· (simp only [go_sem, reduceIte, Nat.reduceEqDiff]; (try with_reducible exact rfl))); (· (simp only [go_sem, reduceIte, Nat.reduceEqDiff]; (try with_reducible exact rfl)))) | ((with_reducible apply Run.callY); (· (simp only [go_sem, reduceIte, Nat.reduceEqDiff]; (try with_reducible exact rfl))); (· (simp only [go_sem, reduceIte, Nat.reduceEqDiff]; (try with_reducible exact rfl))); (· (simp only [go_sem, reduceIte, Nat.reduceEqDiff]; (try with_reducible exact rfl)))) | ((with_reducible apply RunP.callY); (· (simp only [go_sem, reduceIte, Nat.reduceEqDiff]; (try with_reducible exact rfl))); (· (simp only [go_sem, reduceIte, Nat.reduceEqDiff]; (try with_reducible exact rfl))); (· (simp only [go_sem, reduceIte, Nat.reduceEqDiff]; (try with_reducible exact rfl)))) | ((with_reducible apply Run.call0); (· (simp only [go_sem, reduceIte, Nat.reduceEqDiff]; (try with_reducible exact rfl))); (· (simp only [go_sem, reduceIte, Nat.reduceEqDiff]; (try with_reducible exact rfl)))))
        refine sound_use (head_c s1 hr1.ok x hr1.head hpos) [0, 1] rfl (by decide) (by simp [-List.map_map, embAt, nm, AObj.ren, renL, Val.ren, RS.heap, RS.cells, ev3_ren, ev3_wf, map_u64, map_u64_wf]) (by simp [-List.map_map, wfAll, AObj.wf, wfL, Val.wf, RS.heap, RS.cells, ev3_ren, ev3_wf, map_u64, map_u64_wf]) (by simp [-List.map_map, Val.wf, wfL, RS.heap, RS.cells, ev3_ren, ev3_wf, map_u64, map_u64_wf]) (by simp [-List.map_map, Val.ren, renL, nm, RS.heap, RS.cells, ev3_ren, ev3_wf, map_u64, map_u64_wf]) ?_
        rintro v C' ⟨rfl, rfl⟩
        simp only [merge, place, after, nm, MG, Val.ren, renL, AObj.ren, reduceIte, Nat.reduceLT, Nat.reduceAdd, Nat.reduceSub, Nat.lt_irrefl, Nat.zero_lt_one, Nat.zero_lt_succ, RS.heap, RS.cells, ev3_ren, ev3, map_u64]
        repeat (first
    | ((first | (with_reducible first | apply Aa | apply Ab | apply Ac | apply Ad | apply Ae | apply Af | apply Na | apply Nb) | ((with_reducible first | apply Ag | apply Ah | apply Nc); · (simp only [go_sem, reduceIte, Nat.reduceEqDiff]; (try with_reducible exact rfl)))); · (simp only [go_sem, Int.reduceBEq, Int.reduceBNe, Int.reduceLT, Int.reduceLE, Int.reduceAdd, Int.reduceSub, Int.reduceToNat, reduceIte, Nat.reduceEqDiff, Nat.reduceAdd, Nat.reduceMul, Nat.reduceLeDiff, Nat.reduceSub, reduceCtorEq]; (try simp (disch := omega) only [OM, mn_lo, mn_hi, mx_lo, mx_hi, if_yes, if_no, Option.map_some]); (try with_reducible exact rfl)))
    | ((with_reducible first | apply Ba | apply Bb | apply Bc | apply Bd | apply Be | apply Nd); · (simp only [go_sem, reduceIte, Nat.reduceEqDiff]; (try with_reducible exact rfl))) | ((with_reducible first | apply Ca | apply Cb | apply Cc | apply Cd | apply Ce | apply Ne); · (simp only [go_sem, reduceIte, Nat.reduceEqDiff]; (try with_reducible exact rfl)))
    | ((with_reducible first | apply Dg | apply Dh); (· decide +kernel); (· (simp only [inOrd, List.getElem?_cons_succ, List.getElem?_cons_zero]; exact rfl)))
    | ((with_reducible first | apply De | apply Df); (· decide +kernel); (· (simp only [inOrd, List.getElem?_cons_succ, List.getElem?_cons_zero]; exact rfl)))
    | (with_reducible first | apply Ea | apply Eb | apply Ec | apply Ed | apply Ee | apply Ef | apply Eg | apply Eh | apply Ei | apply Ej | apply Ek | apply El | apply Em | apply En | apply Eo) | ((with_reducible apply Ep); · rfl))
        ((with_reducible apply ei_cond); (· (simp only [go_sem, reduceIte, Nat.reduceEqDiff]; (try with_reducible exact rfl)))) <;> intro hq <;> simp only [decide_eq_true_eq, decide_eq_false_iff_not] at hq
        · have hx := ended_app (c := mxi s.clock now) (r := x :: r) hd (fun y hy => by cases hy; rw [← e3]; omega)
          repeat (first
    | ((first | (with_reducible first | apply Aa | apply Ab | apply Ac | apply Ad | apply Ae | apply Af | apply Na | apply Nb) | ((with_reducible first | apply Ag | apply Ah | apply Nc); · (simp only [go_sem, reduceIte, Nat.reduceEqDiff]; (try with_reducible exact rfl)))); · (simp only [go_sem, Int.reduceBEq, Int.reduceBNe, Int.reduceLT, Int.reduceLE, Int.reduceAdd, Int.reduceSub, Int.reduceToNat, reduceIte, Nat.reduceEqDiff, Nat.reduceAdd, Nat.reduceMul, Nat.reduceLeDiff, Nat.reduceSub, reduceCtorEq]; (try simp (disch := omega) only [OM, mn_lo, mn_hi, mx_lo, mx_hi, if_yes, if_no, Option.map_some]); (try with_reducible exact rfl)))
    | ((with_reducible first | apply Ba | apply Bb | apply Bc | apply Bd | apply Be | apply Nd); · (simp only [go_sem, reduceIte, Nat.reduceEqDiff]; (try with_reducible exact rfl))) | ((with_reducible first | apply Ca | apply Cb | apply Cc | apply Cd | apply Ce | apply Ne); · (simp only [go_sem, reduceIte, Nat.reduceEqDiff]; (try with_reducible exact rfl)))
    | ((with_reducible first | apply Dg | apply Dh); (· decide +kernel); (· (simp only [inOrd, List.getElem?_cons_succ, List.getElem?_cons_zero]; exact rfl)))
    | ((with_reducible first | apply De | apply Df); (· decide +kernel); (· (simp only [inOrd, List.getElem?_cons_succ, List.getElem?_cons_zero]; exact rfl)))
    | (with_reducible first | apply Ea | apply Eb | apply Ec | apply Ed | apply Ee | apply Ef | apply Eg | apply Eh | apply Ei | apply Ej | apply Ek | apply El | apply Em | apply En | apply Eo) | ((with_reducible apply Ep); · rfl))
          ((with_reducible apply ei_cond); (· (simp only [go_sem, reduceIte, Nat.reduceEqDiff]; (try with_reducible exact rfl)))) <;> intro hc <;> simp only [decide_eq_true_eq, decide_eq_false_iff_not] at hc
          · repeat (first
    | ((first | (with_reducible first | apply Aa | apply Ab | apply Ac | apply Ad | apply Ae | apply Af | apply Na | apply Nb) | ((with_reducible first | apply Ag | apply Ah | apply Nc); · (simp only [go_sem, reduceIte, Nat.reduceEqDiff]; (try with_reducible exact rfl)))); · (simp only [go_sem, Int.reduceBEq, Int.reduceBNe, Int.reduceLT, Int.reduceLE, Int.reduceAdd, Int.reduceSub, Int.reduceToNat, reduceIte, Nat.reduceEqDiff, Nat.reduceAdd, Nat.reduceMul, Nat.reduceLeDiff, Nat.reduceSub, reduceCtorEq]; (try simp (disch := omega) only [OM, mn_lo, mn_hi, mx_lo, mx_hi, if_yes, if_no, Option.map_some]); (try with_reducible exact rfl)))
    | ((with_reducible first | apply Ba | apply Bb | apply Bc | apply Bd | apply Be | apply Nd); · (simp only [go_sem, reduceIte, Nat.reduceEqDiff]; (try with_reducible exact rfl))) | ((with_reducible first | apply Ca | apply Cb | apply Cc | apply Cd | apply Ce | apply Ne); · (simp only [go_sem, reduceIte, Nat.reduceEqDiff]; (try with_reducible exact rfl)))
    | ((with_reducible first | apply Dg | apply Dh); (· decide +kernel); (· (simp only [inOrd, List.getElem?_cons_succ, List.getElem?_cons_zero]; exact rfl)))
    | ((with_reducible first | apply De | apply Df); (· decide +kernel); (· (simp only [inOrd, List.getElem?_cons_succ, List.getElem?_cons_zero]; exact rfl)))
    | (with_reducible first | apply Ea | apply Eb | apply Ec | apply Ed | apply Ee | apply Ef | apply Eg | apply Eh | apply Ei | apply Ej | apply Ek | apply El | apply Em | apply En | apply Eo) | ((with_reducible apply Ep); · rfl))
            refine told [0, 1, 2] (RS.heap { s1 with shut := false } ++ outH (d.map (·.1))) (outV (d.map (·.1))) (by simp [RS.heap, RS.cells, ev3_ren, ev3_wf, map_u64, map_u64_wf, outH, outV, hdm] <;> fail) (by decide) (by simp [-List.map_map, embAt, nm, AObj.ren, renL, Val.ren, RS.heap, RS.cells, ev3_ren, ev3_wf, map_u64, map_u64_wf, outH, outV, hdm]) (by simp [-List.map_map, wfAll, AObj.wf, wfL, Val.wf, RS.heap, RS.cells, ev3_ren, ev3_wf, map_u64, map_u64_wf, outH, outV, hdm]) (by simp [RS.heap, RS.cells, ev3_ren, ev3_wf, map_u64, map_u64_wf, outH, outV, hdm]) rfl (by simp [-List.map_map, Val.wf, wfL, RS.heap, RS.cells, ev3_ren, ev3_wf, map_u64, map_u64_wf, outH, outV, hdm]) (by simp [-List.map_map, Val.ren, renL, nm, RS.heap, RS.cells, ev3_ren, ev3_wf, map_u64, map_u64_wf, outH, outV, hdm]) ?_
            refine ⟨{ s1 with shut := false }, ?_, congrArg List.length e1, e2, e3, e4, ?_, ?_, ?_, ?_⟩
            · rw [hx.2]; exact ⟨⟨hr1.ok.f0, hr1.ok.f1, hr1.ok.m0, hr1.ok.m1, hr1.ok.len⟩, hr1.many, hr1.at_⟩
            · rw [hx.1]; exact e5
            · rw [hx.2, if_pos (by rw [← hr1.many, ← e1]; exact hc)]
            · rw [hx.1]
            · rw [hx.1]
          · repeat (first
    | ((first | (with_reducible first | apply Aa | apply Ab | apply Ac | apply Ad | apply Ae | apply Af | apply Na | apply Nb) | ((with_reducible first | apply Ag | apply Ah | apply Nc); · (simp only [go_sem, reduceIte, Nat.reduceEqDiff]; (try with_reducible exact rfl)))); · (simp only [go_sem, Int.reduceBEq, Int.reduceBNe, Int.reduceLT, Int.reduceLE, Int.reduceAdd, Int.reduceSub, Int.reduceToNat, reduceIte, Nat.reduceEqDiff, Nat.reduceAdd, Nat.reduceMul, Nat.reduceLeDiff, Nat.reduceSub, reduceCtorEq]; (try simp (disch := omega) only [OM, mn_lo, mn_hi, mx_lo, mx_hi, if_yes, if_no, Option.map_some]); (try with_reducible exact rfl)))
    | ((with_reducible first | apply Ba | apply Bb | apply Bc | apply Bd | apply Be | apply Nd); · (simp only [go_sem, reduceIte, Nat.reduceEqDiff]; (try with_reducible exact rfl))) | ((with_reducible first | apply Ca | apply Cb | apply Cc | apply Cd | apply Ce | apply Ne); · (simp only [go_sem, reduceIte, Nat.reduceEqDiff]; (try with_reducible exact rfl)))
    | ((with_reducible first | apply Dg | apply Dh); (· decide +kernel); (· (simp only [inOrd, List.getElem?_cons_succ, List.getElem?_cons_zero]; exact rfl)))
    | ((with_reducible first | apply De | apply Df); (· decide +kernel); (· (simp only [inOrd, List.getElem?_cons_succ, List.getElem?_cons_zero]; exact rfl)))
    | (with_reducible first | apply Ea | apply Eb | apply Ec | apply Ed | apply Ee | apply Ef | apply Eg | apply Eh | apply Ei | apply Ej | apply Ek | apply El | apply Em | apply En | apply Eo) | ((with_reducible apply Ep); · rfl))
            refine told [0, 1, 2] (RS.heap s1 ++ outH (d.map (·.1))) (outV (d.map (·.1))) (by simp [RS.heap, RS.cells, ev3_ren, ev3_wf, map_u64, map_u64_wf, outH, outV, hdm] <;> fail) (by decide) (by simp [-List.map_map, embAt, nm, AObj.ren, renL, Val.ren, RS.heap, RS.cells, ev3_ren, ev3_wf, map_u64, map_u64_wf, outH, outV, hdm]) (by simp [-List.map_map, wfAll, AObj.wf, wfL, Val.wf, RS.heap, RS.cells, ev3_ren, ev3_wf, map_u64, map_u64_wf, outH, outV, hdm]) (by simp [RS.heap, RS.cells, ev3_ren, ev3_wf, map_u64, map_u64_wf, outH, outV, hdm]) rfl (by simp [-List.map_map, Val.wf, wfL, RS.heap, RS.cells, ev3_ren, ev3_wf, map_u64, map_u64_wf, outH, outV, hdm]) (by simp [-List.map_map, Val.ren, renL, nm, RS.heap, RS.cells, ev3_ren, ev3_wf, map_u64, map_u64_wf, outH, outV, hdm]) ?_
            refine ⟨s1, ?_, congrArg List.length e1, e2, e3, e4, ?_, ?_, ?_, ?_⟩
            · rw [hx.2]; exact hr1
            · rw [hx.1]; exact e5
            · rw [hx.2, if_neg (by rw [← hr1.many, ← e1]; exact hc)]; exact e6
            · rw [hx.1]
            · rw [hx.1]
        · repeat (first
    | ((first | (with_reducible first | apply Aa | apply Ab | apply Ac | apply Ad | apply Ae | apply Af | apply Na | apply Nb) | ((with_reducible first | apply Ag | apply Ah | apply Nc); · (simp only [go_sem, reduceIte, Nat.reduceEqDiff]; (try with_reducible exact rfl)))); · (simp only [go_sem, Int.reduceBEq, Int.reduceBNe, Int.reduceLT, Int.reduceLE, Int.reduceAdd, Int.reduceSub, Int.reduceToNat, reduceIte, Nat.reduceEqDiff, Nat.reduceAdd, Nat.reduceMul, Nat.reduceLeDiff, Nat.reduceSub, reduceCtorEq]; (try simp (disch := omega) only [OM, mn_lo, mn_hi, mx_lo, mx_hi, if_yes, if_no, Option.map_some]); (try with_reducible exact rfl)))
    | ((with_reducible first | apply Ba | apply Bb | apply Bc | apply Bd | apply Be | apply Nd); · (simp only [go_sem, reduceIte, Nat.reduceEqDiff]; (try with_reducible exact rfl))) | ((with_reducible first | apply Ca | apply Cb | apply Cc | apply Cd | apply Ce | apply Ne); · (simp only [go_sem, reduceIte, Nat.reduceEqDiff]; (try with_reducible exact rfl)))
    | ((with_reducible first | apply Dg | apply Dh); (· decide +kernel); (· (simp only [inOrd, List.getElem?_cons_succ, List.getElem?_cons_zero]; exact rfl)))
    | ((with_reducible first | apply De | apply Df); (· decide +kernel); (· (simp only [inOrd, List.getElem?_cons_succ, List.getElem?_cons_zero]; exact rfl)))
    | (with_reducible first | apply Ea | apply Eb | apply Ec | apply Ed | apply Ee | apply Ef | apply Eg | apply Eh | apply Ei | apply Ej | apply Ek | apply El | apply Em | apply En | apply Eo) | ((with_reducible apply Ep); · rfl))
          (first | ((with_reducible apply RunP.call); (· (simp only [go_sem, reduceIte, Nat.reduceEqDiff]; (try with_reducible exact rfl))); (· (simp only [go_sem, reduceIte, Nat.reduceEqDiff]; (try with_reducible exact rfl)))) | ((with_reducible apply Run.call); (· (simp only [go_sem, reduceIte, Nat.reduceEqDiff]; (try with_reducible exact rfl))); (· (simp only [go_sem, reduceIte, Nat.reduceEqDiff]; (try with_reducible exact rfl)))) | ((with_reducible apply Run.callY); (· (simp only [go_sem, reduceIte, Nat.reduceEqDiff]; (try with_reducible exact rfl))); (· (simp only [go_sem, reduceIte, Nat.reduceEqDiff]; (try with_reducible exact rfl))); (· (simp only [go_sem, reduceIte, Nat.reduceEqDiff]; (try with_reducible exact rfl)))) | ((with_reducible apply RunP.callY); (· (simp only [go_sem, reduceIte, Nat.reduceEqDiff]; (try with_reducible exact rfl))); (· (simp only [go_sem, reduceIte, Nat.reduceEqDiff]; (try with_reducible exact rfl))); (· (simp only [go_sem, reduceIte, Nat.reduceEqDiff]; (try with_reducible exact rfl)))) | ((with_reducible apply Run.call0); (· (simp only [go_sem, reduceIte, Nat.reduceEqDiff]; (try with_reducible exact rfl))); (· (simp only [go_sem, reduceIte, Nat.reduceEqDiff]; (try with_reducible exact rfl)))))
          refine sound_use (pop_c s1 hr1.ok hpos) [0, 1] rfl (by decide) (by simp [-List.map_map, embAt, nm, AObj.ren, renL, Val.ren, RS.heap, RS.cells, ev3_ren, ev3_wf, map_u64, map_u64_wf]) (by simp [-List.map_map, wfAll, AObj.wf, wfL, Val.wf, RS.heap, RS.cells, ev3_ren, ev3_wf, map_u64, map_u64_wf]) (by simp [-List.map_map, Val.wf, wfL, RS.heap, RS.cells, ev3_ren, ev3_wf, map_u64, map_u64_wf]) (by simp [-List.map_map, Val.ren, renL, nm, RS.heap, RS.cells, ev3_ren, ev3_wf, map_u64, map_u64_wf]) ?_
          rintro v C' ⟨rfl, rfl⟩
          simp only [merge, place, after, nm, MG, Val.ren, renL, AObj.ren, reduceIte, Nat.reduceLT, Nat.reduceAdd, Nat.reduceSub, Nat.lt_irrefl, Nat.zero_lt_one, Nat.zero_lt_succ, RS.heap, RS.cells, ev3_ren, ev3, map_u64]
          repeat (first
    | ((first | (with_reducible first | apply Aa | apply Ab | apply Ac | apply Ad | apply Ae | apply Af | apply Na | apply Nb) | ((with_reducible first | apply Ag | apply Ah | apply Nc); · (simp only [go_sem, reduceIte, Nat.reduceEqDiff, take_map2, List.length_map, Nat.mul_one]; (try with_reducible exact rfl)))); · (simp only [go_sem, Int.reduceBEq, Int.reduceBNe, Int.reduceLT, Int.reduceLE, Int.reduceAdd, Int.reduceSub, Int.reduceToNat, reduceIte, Nat.reduceEqDiff, Nat.reduceAdd, Nat.reduceMul, Nat.reduceLeDiff, Nat.reduceSub, reduceCtorEq, take_map2, List.length_map, Nat.mul_one]; (try simp (disch := omega) only [OM, mn_lo, mn_hi, mx_lo, mx_hi, if_yes, if_no, Option.map_some, take_map2, List.length_map, Nat.mul_one]); (try with_reducible exact rfl)))
    | ((with_reducible first | apply Ba | apply Bb | apply Bc | apply Bd | apply Be | apply Nd); · (simp only [go_sem, reduceIte, Nat.reduceEqDiff, take_map2, List.length_map, Nat.mul_one]; (try with_reducible exact rfl))) | ((with_reducible first | apply Ca | apply Cb | apply Cc | apply Cd | apply Ce | apply Ne); · (simp only [go_sem, reduceIte, Nat.reduceEqDiff, take_map2, List.length_map, Nat.mul_one]; (try with_reducible exact rfl)))
    | ((with_reducible first | apply Dg | apply Dh); (· decide +kernel); (· (simp only [inOrd, List.getElem?_cons_succ, List.getElem?_cons_zero]; exact rfl)))
    | ((with_reducible first | apply De | apply Df); (· decide +kernel); (· (simp only [inOrd, List.getElem?_cons_succ, List.getElem?_cons_zero]; exact rfl)))
    | (with_reducible first | apply Ea | apply Eb | apply Ec | apply Ed | apply Ee | apply Ef | apply Eg | apply Eh | apply Ei | apply Ej | apply Ek | apply El | apply Em | apply En | apply Eo) | ((with_reducible apply Ep); · rfl))
          have hp := hr1.pop
          refine ⟨r.length, by simp, d ++ [x], r, { s1 with first := (s1.first + 1) % s1.l.length, many := s1.many - 1, bytes := IntKind.u64.wrap (s1.bytes - IntKind.u64.wrap x.2.1) }, by simp, rfl, ?_, ⟨⟨hp.ok.f0, hp.ok.f1, hp.ok.m0, hp.ok.m1, hp.ok.len⟩, hp.many, hp.at_⟩, e1, e2, e3, e4, ?_, e6, ?_⟩
          · intro y hy
            rcases List.mem_append.1 hy with hy | hy
            · exact hd y hy
            · rw [List.mem_singleton] at hy; subst hy; rw [← e3]; omega
          · rw [subB_snoc, ← e5]
          · refine anew [0, 1, 5] (by simp [renL_append, wfL_append, RS.heap, RS.cells, ev3_ren, ev3_wf, map_u64, map_u64_wf, outH, outV, hdm] <;> fail) (by decide) (by simp [-List.map_map, embAt, nm, AObj.ren, renL, Val.ren, renL_append, wfL_append, RS.heap, RS.cells, ev3_ren, ev3_wf, map_u64, map_u64_wf, outH, outV, hdm]) (by simp [-List.map_map, wfAll, AObj.wf, wfL, Val.wf, renL_append, wfL_append, RS.heap, RS.cells, ev3_ren, ev3_wf, map_u64, map_u64_wf, outH, outV, hdm]) (by simp [renL_append, wfL_append, RS.heap, RS.cells, ev3_ren, ev3_wf, map_u64, map_u64_wf, outH, outV, hdm]) rfl (by simp [-List.map_map, Val.wf, wfL, renL_append, wfL_append, RS.heap, RS.cells, ev3_ren, ev3_wf, map_u64, map_u64_wf, outH, outV, hdm]) (by simp [-List.map_map, Env.get, Val.ren, renL, nm, initEnv, renL_append, wfL_append, RS.heap, RS.cells, ev3_ren, ev3_wf, map_u64, map_u64_wf, outH, outV, hdm])
end Go.Proofs.Ythpcdpnolmacpaa.IR
