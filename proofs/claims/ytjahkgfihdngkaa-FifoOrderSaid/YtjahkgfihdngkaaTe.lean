/- This text of a proof shows: what Put, Drop and New of a tree come to. -/
import Derived.Test.YtjahkgfihdngkaaGg
import Derived.Test.YtjahkgfihdngkaaTd
import Derived.Test.YtjahkgfihdngkaaRb7
set_option linter.unusedVariables false
set_option linter.unusedSimpArgs false
set_option linter.constructorNameAsVariable false
namespace Go.Proofs.Ytjahkgfihdngkaa.IR
open Go Go.Proofs.Ytjahkgfihdngkaa.Ev Go.Proofs.Ytjahkgfihdngkaa.Ev.Rb
set_option linter.unusedSimpArgs false
set_option linter.unusedVariables false
set_option maxHeartbeats 4000000
attribute [local go_sem] skipV nc0 nc1 nc2 nc3 bne_self_eq_false decide_true decide_false IOp.step Opd.ev Env.get initEnv Val.cells? Val.one List.all_cons List.all_nil Bool.and_true Bool.and_self Bool.true_and bin ints eqv Val.kindNo lenNo_s lenNo_nils lenNo_sl lenNo_nilm lenNo_m lenOf_s lenOf_nils lenOf_sl lenOf_nilm unary partsOf padTo List.foldl_cons List.foldl_nil wr_nil wr_step wr_zero List.set_cons_zero List.set_cons_succ List.map_cons List.map_nil z1 z2 Nat.succ_ne_zero List.length_cons List.length_nil List.cons_append List.nil_append List.append_nil List.getElem?_cons_zero List.getElem?_cons_succ List.getElem?_nil Option.map_some Option.map_none Nat.zero_add Nat.add_zero List.drop_zero List.drop_succ_cons List.take_succ_cons List.take_zero List.take_nil and_self and_true true_and Nat.le_refl Bool.not_true Bool.not_false Option.getD_some window Val.slen bnd resV resL RV.val Bool.false_eq_true BEq.rfl Bool.true_beq Bool.false_beq beq_true beq_false mk_one ite_true ite_false eqc ceqs ceq NOp.step isK eq_self
attribute [local go_sem] Nat.mul_one Nat.sub_zero encF_length
attribute [local go_sem] nat_toNat wr_one Nat.mul_one dv_dn dv_0 dv_2 dv_f dv_t dv_not setK_root setUp_root setRed_root
theorem wr_enc (f : Nat → Nd) (x : Nd) : ∀ (n : Nat) {i : Nat}, i < n → wr (encF f n) (i * 7) x.enc = encF (fupd f i x) n
  | 0, i, h => by omega
  | n + 1, i, h => by
    have hset : ∀ (a b : List Val) (o : Nat) (l : List Val), o + l.length ≤ a.length → wr (a ++ b) o l = wr a o l ++ b := by
      intro a b o l
      induction l generalizing a o with
      | nil => intro _; rfl
      | cons v l ih =>
        intro hl
        simp only [wr]
        simp at hl
        rw [List.set_append_left _ _ (by omega), ih _ _ (by simp; omega)]
    have hset2 : ∀ (a b : List Val) (l : List Val), l.length = b.length → wr (a ++ b) a.length l = a ++ l := by
      intro a b l
      induction l generalizing a b with
      | nil => intro hl; cases b with
        | nil => rfl
        | cons _ _ => cases hl
      | cons v l ih =>
        intro hl
        cases b with
        | nil => cases hl
        | cons w b =>
          simp only [wr]
          rw [List.set_append_right _ _ (Nat.le_refl _), Nat.sub_self, List.set_cons_zero]
          have := ih (a ++ [v]) b (by simpa using hl)
          simp at this
          exact this
    simp only [encF]
    by_cases e : i = n
    · subst e
      have := hset2 (encF f i) (f i).enc x.enc rfl
      rw [encF_length] at this
      rw [this, fupd_same, encF_congr i fun k hk => fupd_ne (by omega)]
    · rw [hset _ _ _ _ (by rw [encF_length, enc_length]; omega), wr_enc f x n (by omega), fupd_ne (by omega)]
theorem wr_new (f : Nat → Nd) (a b v : Int) (up : Nat) {n i : Nat} (h : i < n) : wr (encF f n) (i * 7) [.i .u64 a, .i .u64 b, .i .i64 v, .i .i64 0, .i .i64 0, .i .i64 (up : Nat), .b true] = encF (fupd f i ⟨(a, b, v), 0, 0, up, true⟩) n := wr_enc f ⟨(a, b, v), 0, 0, up, true⟩ n h
theorem wr_nd0 (f : Nat → Nd) {n : Nat} (h : 0 < n) : wr (encF f n) 0 [.i .u64 0, .i .u64 0, .i .i64 0, .i .i64 0, .i .i64 0, .i .i64 0, .b false] = encF (fupd f 0 nd0) n := wr_enc f nd0 n h
/-- What a call leaves of a tree's entries. -/
def TPost (t : TS) (r : Val) (L : List (Int × Int × Int)) (v : Val) (H : Heap) : Prop := v = r ∧ ∃ t' : TS, TR t' L ∧ t'.room = t.room ∧ H = tH t' t'.s
def fg (t : TS) : GO := t.fo.map fun j => ([], nums j)
theorem fv_g (t : TS) (k : Nat) : t.fv k = gV (fg t) k t.free.length 1 := by
  unfold TS.fv fg; cases t.fo <;> rfl
theorem fobj_g (t : TS) : t.fobj = gO (fg t) (nums t.free) := by
  unfold TS.fobj fg; cases t.fo <;> rfl
theorem fg_none {t : TS} {L : List (Int × Int × Int)} (h : TR t L) : fg t = none → t.free.length = 0 := by
  intro e
  have : t.fo = none := by unfold fg at e; simpa using e
  rw [h.fnone this]; rfl
def midT (t : TS) : TS := { newT t t.s with many := t.many }
theorem put_c (t : TS) (L : List (Int × Int × Int)) (h : TR t L) (k : Int × Int) (v : Int) :
    SoundM Try.prog 1 29 [.p 0 0, .agg [.i .u64 k.1, .i .u64 k.2], .i .i64 v] (tH t t.s) (TPost t (.i .i64 (putE k v t.room L).1) (putE k v t.room L).2) := by
  refine sound_told (sound_func Try.func29 c29 rfl (by simp [tH]) ?_)
  have bd := h.bd
  simp only [e29, tH, TS.cells]
  refine GG0 ?_
  (first | ((with_reducible first | apply RunP.call | apply Run.call | apply Run.call0); iterate 2 (· (simp only [go_sem, reduceIte, Nat.reduceEqDiff]; (try with_reducible exact rfl)))) | ((with_reducible first | apply Run.callY | apply RunP.callY); iterate 3 (· (simp only [go_sem, reduceIte, Nat.reduceEqDiff]; (try with_reducible exact rfl)))))
  refine sound_use (tno_c t t.s) [0, 1, 2] rfl (by decide) ?_ ?_ ?_ ?_ ?_; iterate 4 (· simp [-List.map_map, embAt, nm, rn_rw, rn_ro, rn_map, rn_iter, rn_dead, renL, Val.ren, wfAll, wn_rw, wn_ro, wn_map, wn_iter, wn_dead, wfL, Val.wf, Env.get, initEnv, tH, TS.cells, encF_ren, encF_wf, fv_ren, fv_wf, fobj_ren, fobj_wf, setUp_root, setK_root, setRed_root])
  rintro v C' ⟨rfl, rfl⟩
  simp only [merge, place, after, nm, MG, Val.ren, renL, rn_rw, rn_ro, rn_map, rn_iter, rn_dead, reduceIte, Nat.reduceLT, Nat.reduceAdd, Nat.reduceSub, Nat.lt_irrefl, Nat.zero_lt_one, Nat.zero_lt_succ, tH, TS.cells, encF_ren, encF_wf, fv_ren, fv_wf, fobj_ren, fobj_wf, setUp_root, setK_root, setRed_root]
  refine GG0 ?_
  rcases h.find k with ⟨m, x, a, b, hf, hx, hxl, hL, hk⟩ | ⟨m, last, hf, hk⟩
  · have hh : has k L = true := by rw [hL]; simp [has, hk]
    have he : putE k v t.room L = (60, L) := by simp only [putE]; rw [if_pos hh]
    have hb : (((x : Nat) : Int) != 0) = true := by simpa using hx
    (first | ((with_reducible first | apply RunP.call | apply Run.call | apply Run.call0); iterate 2 (· (simp only [go_sem, reduceIte, Nat.reduceEqDiff]; (try with_reducible exact rfl)))) | ((with_reducible first | apply Run.callY | apply RunP.callY); iterate 3 (· (simp only [go_sem, reduceIte, Nat.reduceEqDiff]; (try with_reducible exact rfl)))))
    refine sound_use (find_c t t.s k _ m bd hf) [0, 1, 2] rfl (by decide) ?_ ?_ ?_ ?_ ?_; iterate 4 (· simp [-List.map_map, embAt, nm, rn_rw, rn_ro, rn_map, rn_iter, rn_dead, renL, Val.ren, wfAll, wn_rw, wn_ro, wn_map, wn_iter, wn_dead, wfL, Val.wf, Env.get, initEnv, tH, TS.cells, encF_ren, encF_wf, fv_ren, fv_wf, fobj_ren, fobj_wf, setUp_root, setK_root, setRed_root])
    rintro v C' ⟨rfl, rfl⟩
    simp only [merge, place, after, nm, MG, Val.ren, renL, rn_rw, rn_ro, rn_map, rn_iter, rn_dead, reduceIte, Nat.reduceLT, Nat.reduceAdd, Nat.reduceSub, Nat.lt_irrefl, Nat.zero_lt_one, Nat.zero_lt_succ, tH, TS.cells, encF_ren, encF_wf, fv_ren, fv_wf, fobj_ren, fobj_wf, setUp_root, setK_root, setRed_root]
    (have g0 := hb; refine GG1 ?_; clear g0)
    rw [he]
    refine told [0, 1, 2] (tH t t.s) (.i .i64 60) ?_ (by decide) ?_ ?_ ?_ rfl ?_ ?_ ?_; iterate 6 (· simp [-List.map_map, embAt, nm, rn_rw, rn_ro, rn_map, rn_iter, rn_dead, renL, Val.ren, wfAll, wn_rw, wn_ro, wn_map, wn_iter, wn_dead, wfL, Val.wf, Env.get, initEnv, tH, TS.cells, encF_ren, encF_wf, fv_ren, fv_wf, fobj_ren, fobj_wf, setUp_root, setK_root, setRed_root])
    exact ⟨rfl, t, h, rfl, rfl⟩
  · have hh : ¬ has k L = true := by
      simp only [has, List.any_eq_true, decide_eq_true_eq, not_exists, not_and]
      exact hk
    (first | ((with_reducible first | apply RunP.call | apply Run.call | apply Run.call0); iterate 2 (· (simp only [go_sem, reduceIte, Nat.reduceEqDiff]; (try with_reducible exact rfl)))) | ((with_reducible first | apply Run.callY | apply RunP.callY); iterate 3 (· (simp only [go_sem, reduceIte, Nat.reduceEqDiff]; (try with_reducible exact rfl)))))
    refine sound_use (find_c t t.s k _ m bd hf) [0, 1, 2] rfl (by decide) ?_ ?_ ?_ ?_ ?_; iterate 4 (· simp [-List.map_map, embAt, nm, rn_rw, rn_ro, rn_map, rn_iter, rn_dead, renL, Val.ren, wfAll, wn_rw, wn_ro, wn_map, wn_iter, wn_dead, wfL, Val.wf, Env.get, initEnv, tH, TS.cells, encF_ren, encF_wf, fv_ren, fv_wf, fobj_ren, fobj_wf, setUp_root, setK_root, setRed_root])
    rintro v C' ⟨rfl, rfl⟩
    simp only [merge, place, after, nm, MG, Val.ren, renL, rn_rw, rn_ro, rn_map, rn_iter, rn_dead, reduceIte, Nat.reduceLT, Nat.reduceAdd, Nat.reduceSub, Nat.lt_irrefl, Nat.zero_lt_one, Nat.zero_lt_succ, tH, TS.cells, encF_ren, encF_wf, fv_ren, fv_wf, fobj_ren, fobj_wf, setUp_root, setK_root, setRed_root]
    by_cases hfull : t.many = t.room
    · have he : putE k v t.room L = (4, L) := by simp only [putE]; rw [if_neg hh, if_pos (by rw [← h.many]; exact hfull)]
      have hb : (((t.many : Nat) : Int) == ((t.room : Nat) : Int)) = true := by simp [hfull]
      repeat (first
    | ((first | (with_reducible first | apply Aa | apply Ab | apply Ac | apply Ad | apply Ae | apply Af | apply Na | apply Nb) | ((with_reducible first | apply Ag | apply Ah | apply Nc); · (simp only [go_sem, reduceIte, Nat.reduceEqDiff, nc0, hb]; (try with_reducible exact rfl)))); · (simp only [go_sem, Int.reduceBEq, Int.reduceBNe, Int.reduceLT, Int.reduceLE, Int.reduceAdd, Int.reduceSub, Int.reduceToNat, reduceIte, Nat.reduceEqDiff, Nat.reduceAdd, Nat.reduceMul, Nat.reduceLeDiff, Nat.reduceSub, reduceCtorEq, nc0, hb]; (try simp (disch := omega) only [OM, mn_lo, mn_hi, mx_lo, mx_hi, if_yes, if_no, Option.map_some, nc0, hb]); (try with_reducible exact rfl)))
    | ((with_reducible first | apply Ba | apply Bb | apply Bc | apply Bd | apply Be | apply Nd); · (simp only [go_sem, reduceIte, Nat.reduceEqDiff, nc0, hb]; (try with_reducible exact rfl))) | ((with_reducible first | apply Ca | apply Cb | apply Cc | apply Cd | apply Ce | apply Ne); · (simp only [go_sem, reduceIte, Nat.reduceEqDiff, nc0, hb]; (try with_reducible exact rfl)))
    | ((with_reducible first | apply Dg | apply Dh); (· decide +kernel); (· (simp only [inOrd, List.getElem?_cons_succ, List.getElem?_cons_zero]; exact rfl)))
    | ((with_reducible first | apply De | apply Df); (· decide +kernel); (· (simp only [inOrd, List.getElem?_cons_succ, List.getElem?_cons_zero]; exact rfl)))
    | (with_reducible first | apply Ea | apply Eb | apply Ec | apply Ed | apply Ee | apply Ef | apply Eg | apply Eh | apply Ei | apply Ej | apply Ek | apply El | apply Em | apply En | apply Eo) | ((with_reducible apply Ep); · rfl))
      rw [he]
      refine told [0, 1, 2] (tH t t.s) (.i .i64 4) ?_ (by decide) ?_ ?_ ?_ rfl ?_ ?_ ?_; iterate 6 (· simp [-List.map_map, embAt, nm, rn_rw, rn_ro, rn_map, rn_iter, rn_dead, renL, Val.ren, wfAll, wn_rw, wn_ro, wn_map, wn_iter, wn_dead, wfL, Val.wf, Env.get, initEnv, tH, TS.cells, encF_ren, encF_wf, fv_ren, fv_wf, fobj_ren, fobj_wf, setUp_root, setK_root, setRed_root])
      exact ⟨rfl, t, h, rfl, rfl⟩
    · have hroom : t.many < t.room := by have := h.le; omega
      have he : putE k v t.room L = (0, ins (k.1, k.2, v) L) := by simp only [putE]; rw [if_neg hh, if_neg (by rw [← h.many]; exact hfull)]
      have hb : (((t.many : Nat) : Int) == ((t.room : Nat) : Int)) = false := by simp; omega
      obtain ⟨p1, p2, p3, p4, p5, n, s', hs, hT⟩ := h.put v hf hk hroom
      rw [he]
      have hcap := h.cap
      have hr6 := h.room
      have hfn := fg_none h
      repeat (first
    | ((first | (with_reducible first | apply Aa | apply Ab | apply Ac | apply Ad | apply Ae | apply Af | apply Na | apply Nb) | ((with_reducible first | apply Ag | apply Ah | apply Nc); · (simp only [go_sem, reduceIte, Nat.reduceEqDiff, nc0, hb, fv_g, gV_no, gV_len hfn]; (try with_reducible exact rfl)))); · (simp only [go_sem, Int.reduceBEq, Int.reduceBNe, Int.reduceLT, Int.reduceLE, Int.reduceAdd, Int.reduceSub, Int.reduceToNat, reduceIte, Nat.reduceEqDiff, Nat.reduceAdd, Nat.reduceMul, Nat.reduceLeDiff, Nat.reduceSub, reduceCtorEq, nc0, hb, fv_g, gV_no, gV_len hfn]; (try simp (disch := omega) only [OM, mn_lo, mn_hi, mx_lo, mx_hi, if_yes, if_no, Option.map_some, nc0, hb, fv_g, gV_no, gV_len hfn]); (try with_reducible exact rfl)))
    | ((with_reducible first | apply Ba | apply Bb | apply Bc | apply Bd | apply Be | apply Nd); · (simp only [go_sem, reduceIte, Nat.reduceEqDiff, nc0, hb, fv_g, gV_no, gV_len hfn]; (try with_reducible exact rfl))) | ((with_reducible first | apply Ca | apply Cb | apply Cc | apply Cd | apply Ce | apply Ne); · (simp only [go_sem, reduceIte, Nat.reduceEqDiff, nc0, hb, fv_g, gV_no, gV_len hfn]; (try with_reducible exact rfl)))
    | ((with_reducible first | apply Dg | apply Dh); (· decide +kernel); (· (simp only [inOrd, List.getElem?_cons_succ, List.getElem?_cons_zero]; exact rfl)))
    | ((with_reducible first | apply De | apply Df); (· decide +kernel); (· (simp only [inOrd, List.getElem?_cons_succ, List.getElem?_cons_zero]; exact rfl)))
    | (with_reducible first | apply Ea | apply Eb | apply Ec | apply Ed | apply Ee | apply Ef | apply Eg | apply Eh | apply Ei | apply Ej | apply Ek | apply El | apply Em | apply En | apply Eo) | ((with_reducible apply Ep); · rfl))
      refine ei_mid (M := AnewS 1 (tH (midT t) (if t.free = [] then { t.s with f := fupd t.s.f t.len nd0 } else t.s) ++ [.rw [.i .u64 k.1, .i .u64 k.2]]) [(0, .p 0 0), (2, .i .i64 v), (4, .p 3 0), (8, .i .i64 (last : Nat)), (9, .i .i64 (newZ t : Nat))]) ?_ (fun ρ' H' ha => ei_anewS ha ?_)
      · by_cases hfe : t.free = []
        · have hz : ¬ (((t.free.length : Nat) : Int) > 0) := by rw [hfe]; simp
          (have g0 := decide_f hz; refine GG1 ?_; clear g0)
          have hlen : (encF t.s.f t.len).length = t.len * 7 := encF_length _ _
          have etk : List.take (t.len * 7) (encF t.s.f t.len) = encF t.s.f t.len := List.take_of_length_le (by rw [hlen]; exact Nat.le_refl _)
          rw [etk]
          have ez : newZ t = t.len := by unfold newZ; rw [hfe]; rfl
          have ee : encF t.s.f t.len ++ [.i .u64 0, .i .u64 0, .i .i64 0, .i .i64 0, .i .i64 0, .i .i64 0, .b false] = encF (fupd t.s.f t.len nd0) (t.len + 1) := by
            show encF t.s.f t.len ++ nd0.enc = _
            simp only [encF]; rw [fupd_same, encF_congr t.len fun k hk => fupd_ne (by omega)]
          have ef : (newT t t.s).free = t.free := by simp [newT, hfe]
          have efo : (newT t t.s).fo = t.fo := by simp [newT, hfe]
          have efv : ∀ j, (midT t).fv j = t.fv j := fun j => by unfold TS.fv midT; simp only [ef, efo]
          have efb : (midT t).fobj = t.fobj := by unfold TS.fobj midT; simp only [ef, efo]
          have el : (newT t t.s).len = t.len + 1 := by simp [newT, hfe]
          have eH : ∀ q : Rb, tH (midT t) q = [.rw [.sl 1 0 (t.len + 1) 7, t.fv 2, .i .i64 (q.root : Nat), .i .i64 (t.many : Nat), .i .i64 (t.room : Nat)], .rw (encF q.f (t.len + 1)), t.fobj] := fun q => by
            simp only [tH]; rw [efb]; simp only [TS.cells]; rw [efv]; simp only [midT, el]; rfl
          rw [eH, ez, if_pos hfe, ee]
          simp only [← fv_g]
          (refine anew [0, 5, 2, 3] ?_ (by decide) ?_ ?_ ?_ rfl ?_ ?_ <;> simp [-List.map_map, embAt, nm, rn_rw, rn_ro, rn_map, rn_iter, rn_dead, renL, Val.ren, wfAll, wn_rw, wn_ro, wn_map, wn_iter, wn_dead, wfL, Val.wf, Env.get, initEnv, tH, TS.cells, encF_ren, encF_wf, fv_ren, fv_wf, fobj_ren, fobj_wf, setUp_root, setK_root, setRed_root])
        · have hpos : 0 < t.free.length := List.length_pos_iff.2 hfe
          have hz : (((t.free.length : Nat) : Int) > 0) := by omega
          obtain ⟨fr, e1⟩ : ∃ fr, t.free = fr ++ [newZ t] := ⟨t.free.dropLast, by
            unfold newZ
            cases hq : t.free.getLast? with
            | none => exact absurd (by simpa using hq) hfe
            | some z =>
              obtain ⟨_, e⟩ := List.getLast?_eq_some_iff.1 hq
              simp only [Option.getD_some]
              rw [e]; simp⟩
          cases hfo : t.fo with
          | none => exact absurd (h.fnone hfo) hfe
          | some j =>
          have eg : fg t = some ([], nums j) := by unfold fg; rw [hfo]; rfl
          have efl : t.free.length = fr.length + 1 := by rw [e1]; simp
          have efo : t.fobj = .rw (nums t.free ++ nums j) := by unfold TS.fobj; rw [hfo]
          have hat : (nums t.free ++ nums j)[fr.length]? = some (.i .i64 (newZ t : Nat)) := by
            rw [List.getElem?_append_left (by simp [nums, efl]), e1, nums_app, List.getElem?_append_right (by simp [nums])]
            simp [nums]
          have hcapf : fr.length ≤ 100000 := by
            obtain ⟨T, _, _, _, _, _, hl⟩ := h.ex
            omega
          have e2 : ((((fr.length + 1 : Nat) : Int) - 1)).toNat = fr.length := by omega
          rw [efl] at hz
          rw [if_neg hfe]
          simp only [efo, efl, eg, gV_some, List.length_nil]
          (have g0 := decide_t hz; have g1 := e2; have g2 := hat; refine GG3 ?_; clear g0 g1 g2)
          have ef : (newT t t.s).free = fr := by simp [newT, e1]
          have eo : (newT t t.s).fo = some (newZ t :: j) := by simp [newT, hfo, hfe]
          have el : (newT t t.s).len = t.len := by simp [newT, hfe]
          have efv : ∀ j, (midT t).fv j = .sl j 0 fr.length 1 := fun j => by unfold TS.fv midT; simp only [ef, eo]
          have efb : (midT t).fobj = .rw (nums t.free ++ nums j) := by unfold TS.fobj midT; simp only [ef, eo]; rw [e1]; simp [nums]
          have eH : ∀ q : Rb, tH (midT t) q = [.rw [.sl 1 0 t.len 7, .sl 2 0 fr.length 1, .i .i64 (q.root : Nat), .i .i64 (t.many : Nat), .i .i64 (t.room : Nat)], .rw (encF q.f t.len), .rw (nums t.free ++ nums j)] := fun q => by
            simp only [tH]; rw [efb]; simp only [TS.cells]; rw [efv]; simp only [midT, el]; rfl
          rw [eH]
          (refine anew [0, 1, 2, 3] ?_ (by decide) ?_ ?_ ?_ rfl ?_ ?_ <;> simp [-List.map_map, embAt, nm, rn_rw, rn_ro, rn_map, rn_iter, rn_dead, renL, Val.ren, wfAll, wn_rw, wn_ro, wn_map, wn_iter, wn_dead, wfL, Val.wf, Env.get, initEnv, tH, TS.cells, encF_ren, encF_wf, fv_ren, fv_wf, fobj_ren, fobj_wf, setUp_root, setK_root, setRed_root, renL_append, wfL_append, nums_ren, nums_wf])
      · have el : (newT t t.s).len = (if t.free = [] then t.len + 1 else t.len) := rfl
        have hll : last < (newT t t.s).len := by rw [el]; split <;> omega
        have hzl : newZ t < (newT t t.s).len := by rw [el]; exact p5
        rw [← el] at p4
        have hmany : t.many ≤ 65536 := by omega
        have efu : ∀ x, fupd (if t.free = [] then { t.s with f := fupd t.s.f t.len nd0 } else t.s).f (newZ t) x = fupd t.s.f (newZ t) x := by
          intro x
          by_cases hfe : t.free = []
          · have ez : newZ t = t.len := by unfold newZ; rw [hfe]; rfl
            rw [if_pos hfe, ez]
            funext j
            simp only [fupd]
            split <;> rfl
          · rw [if_neg hfe]
        have eroot : (if t.free = [] then { t.s with f := fupd t.s.f t.len nd0 } else t.s).root = t.s.root := by split <;> rfl
        have eh : ∀ q : Rb, (tH (newT t t.s) q) = [.rw [.sl 1 0 (newT t t.s).len 7, (newT t t.s).fv 2, .i .i64 (q.root : Nat), .i .i64 ((t.many : Nat) + 1), .i .i64 (t.room : Nat)], .rw (encF q.f (newT t t.s).len), (newT t t.s).fobj] := fun q => by
          simp only [tH, TS.cells, newT, Int.natCast_add, nc1]
        have eHm : ∀ q : Rb, tH (midT t) q = [.rw [.sl 1 0 (newT t t.s).len 7, (newT t t.s).fv 2, .i .i64 (q.root : Nat), .i .i64 (t.many : Nat), .i .i64 (t.room : Nat)], .rw (encF q.f (newT t t.s).len), (newT t t.s).fobj] := fun q => rfl
        rw [eHm, eroot]
        simp only [List.cons_append, List.nil_append]
        (have g0 := fun q0 q1 q2 q3 q4 => wr_new q0 q1 q2 q3 q4 hzl; have g1 := efu; refine GG2 ?_; clear g0 g1)
        -- the new node hangs in
        refine ei_midB (M := AnewS 1 (tH (newT t t.s) (link t.s (newZ t) k v last)) [(0, .p 0 0), (9, .i .i64 (newZ t : Nat))]) ?_ (fun ρ' H' ha => ei_anewS ha ?_)
        · by_cases hl0 : last = 0
          · have hb2 : (((last : Nat) : Int) == 0) = true := by simp [hl0]
            have elk : link t.s (newZ t) k v last = { f := fupd t.s.f (newZ t) ⟨(k.1, k.2, v), 0, 0, last, true⟩, root := newZ t } := by simp only [link]; rw [if_pos hl0]
            (have g0 := hb2; refine GG1 ?_; clear g0)
            rw [eh, elk]
            (refine anew [0, 1, 2] ?_ (by decide) ?_ ?_ ?_ rfl ?_ ?_ <;> simp [-List.map_map, embAt, nm, rn_rw, rn_ro, rn_map, rn_iter, rn_dead, renL, Val.ren, wfAll, wn_rw, wn_ro, wn_map, wn_iter, wn_dead, wfL, Val.wf, Env.get, initEnv, tH, TS.cells, encF_ren, encF_wf, fv_ren, fv_wf, fobj_ren, fobj_wf, setUp_root, setK_root, setRed_root])
          · have hb2 : (((last : Nat) : Int) == 0) = false := by simpa using hl0
            have elk : link t.s (newZ t) k v last = setK { t.s with f := fupd t.s.f (newZ t) ⟨(k.1, k.2, v), 0, 0, last, true⟩ } (!decide (klt k ((fupd t.s.f (newZ t) ⟨(k.1, k.2, v), 0, 0, last, true⟩) last).key)) last (newZ t) := by simp only [link]; rw [if_neg hl0]
            (have g0 := hb2; have g1 := fun qf => get_key (f := qf) hll; refine GG2 ?_; clear g0 g1)
            (first | ((with_reducible first | apply RunP.call | apply Run.call | apply Run.call0); iterate 2 (· (simp only [go_sem, reduceIte, Nat.reduceEqDiff]; (try with_reducible exact rfl)))) | ((with_reducible first | apply Run.callY | apply RunP.callY); iterate 3 (· (simp only [go_sem, reduceIte, Nat.reduceEqDiff]; (try with_reducible exact rfl)))))
            refine (less_ok _ _ _ _ _).mono ?_
            rintro v' H' ⟨rfl, rfl⟩
            (first | refine And.intro rfl ?_ | refine And.intro trivial ?_ | skip)
            by_cases c1 : klt k ((fupd t.s.f (newZ t) ⟨(k.1, k.2, v), 0, 0, last, true⟩) last).key
            · have c1' : klt (k.1, k.2) (((fupd t.s.f (newZ t) ⟨(k.1, k.2, v), 0, 0, last, true⟩) last).e.1, ((fupd t.s.f (newZ t) ⟨(k.1, k.2, v), 0, 0, last, true⟩) last).e.2.1) := c1
              rw [decide_t c1, Bool.not_true] at elk
              have e4 := set_k0 (s := { t.s with f := fupd t.s.f (newZ t) ⟨(k.1, k.2, v), 0, 0, last, true⟩ }) (newZ t) hll
              (have g0 := decide_t c1'; have g1 := e4; refine GG2 ?_; clear g0 g1)
              rw [eh, elk]
              (refine anew [0, 1, 2] ?_ (by decide) ?_ ?_ ?_ rfl ?_ ?_ <;> simp [-List.map_map, embAt, nm, rn_rw, rn_ro, rn_map, rn_iter, rn_dead, renL, Val.ren, wfAll, wn_rw, wn_ro, wn_map, wn_iter, wn_dead, wfL, Val.wf, Env.get, initEnv, tH, TS.cells, encF_ren, encF_wf, fv_ren, fv_wf, fobj_ren, fobj_wf, setUp_root, setK_root, setRed_root])
            · have c1' : ¬ klt (k.1, k.2) (((fupd t.s.f (newZ t) ⟨(k.1, k.2, v), 0, 0, last, true⟩) last).e.1, ((fupd t.s.f (newZ t) ⟨(k.1, k.2, v), 0, 0, last, true⟩) last).e.2.1) := c1
              rw [decide_f c1, Bool.not_false] at elk
              have e4 := set_k1 (s := { t.s with f := fupd t.s.f (newZ t) ⟨(k.1, k.2, v), 0, 0, last, true⟩ }) (newZ t) hll
              (have g0 := decide_f c1'; have g1 := e4; refine GG2 ?_; clear g0 g1)
              rw [eh, elk]
              (refine anew [0, 1, 2] ?_ (by decide) ?_ ?_ ?_ rfl ?_ ?_ <;> simp [-List.map_map, embAt, nm, rn_rw, rn_ro, rn_map, rn_iter, rn_dead, renL, Val.ren, wfAll, wn_rw, wn_ro, wn_map, wn_iter, wn_dead, wfL, Val.wf, Env.get, initEnv, tH, TS.cells, encF_ren, encF_wf, fv_ren, fv_wf, fobj_ren, fobj_wf, setUp_root, setK_root, setRed_root])
        · have hset := settle_c (newT t t.s) (link t.s (newZ t) k v last) s' (newZ t) n p4 hzl hs
          refine GG0 ?_
          (first | ((with_reducible first | apply RunP.call | apply Run.call | apply Run.call0); iterate 2 (· (simp only [go_sem, reduceIte, Nat.reduceEqDiff]; (try with_reducible exact rfl)))) | ((with_reducible first | apply Run.callY | apply RunP.callY); iterate 3 (· (simp only [go_sem, reduceIte, Nat.reduceEqDiff]; (try with_reducible exact rfl)))))
          refine sound_use (hset) [0, 1, 2] rfl (by decide) ?_ ?_ ?_ ?_ ?_; iterate 4 (· simp [-List.map_map, embAt, nm, rn_rw, rn_ro, rn_map, rn_iter, rn_dead, renL, Val.ren, wfAll, wn_rw, wn_ro, wn_map, wn_iter, wn_dead, wfL, Val.wf, Env.get, initEnv, tH, TS.cells, encF_ren, encF_wf, fv_ren, fv_wf, fobj_ren, fobj_wf, setUp_root, setK_root, setRed_root])
          rintro v' C' ⟨rfl, rfl⟩
          simp only [merge, place, after, nm, MG, Val.ren, renL, rn_rw, rn_ro, rn_map, rn_iter, rn_dead, reduceIte, Nat.reduceLT, Nat.reduceAdd, Nat.reduceSub, Nat.lt_irrefl, Nat.zero_lt_one, Nat.zero_lt_succ, tH, TS.cells, encF_ren, encF_wf, fv_ren, fv_wf, fobj_ren, fobj_wf, setUp_root, setK_root, setRed_root]
          refine GG0 ?_
          refine told [0, 1, 2] (tH (newT t t.s) s') (.i .i64 0) ?_ (by decide) ?_ ?_ ?_ rfl ?_ ?_ ?_; iterate 6 (· simp [-List.map_map, embAt, nm, rn_rw, rn_ro, rn_map, rn_iter, rn_dead, renL, Val.ren, wfAll, wn_rw, wn_ro, wn_map, wn_iter, wn_dead, wfL, Val.wf, Env.get, initEnv, tH, TS.cells, encF_ren, encF_wf, fv_ren, fv_wf, fobj_ren, fobj_wf, setUp_root, setK_root, setRed_root])
          exact ⟨rfl, newT t s', hT, rfl, rfl⟩
end Go.Proofs.Ytjahkgfihdngkaa.IR
