/- This text of a proof shows: the law 'BitmapRound' answers true, as a run. -/
import Derived.Test.YtphlceiachdneaaDoorO08
set_option linter.unusedVariables false
set_option linter.unusedSimpArgs false
set_option linter.constructorNameAsVariable false
namespace Go.Proofs.YtphlceiachdneaaDoor.IR
open Go Go.Proofs.YtphlceiachdneaaDoor.Ev
set_option linter.unusedSimpArgs false
set_option linter.unusedVariables false
set_option maxHeartbeats 4000000
attribute [local go_sem] skipV nc0 nc1 nc2 nc3 bne_self_eq_false decide_true decide_false IOp.step Opd.ev Env.get initEnv Val.cells? Val.one List.all_cons List.all_nil Bool.and_true Bool.and_self Bool.true_and bin ints eqv Val.kindNo lenNo_s lenNo_nils lenNo_sl lenNo_nilm lenNo_m lenOf_s lenOf_nils lenOf_sl lenOf_nilm unary partsOf padTo List.foldl_cons List.foldl_nil wr_nil wr_step wr_zero List.set_cons_zero List.set_cons_succ List.map_cons List.map_nil z1 z2 Nat.succ_ne_zero List.length_cons List.length_nil List.cons_append List.nil_append List.append_nil List.getElem?_cons_zero List.getElem?_cons_succ List.getElem?_nil Option.map_some Option.map_none Nat.zero_add Nat.add_zero List.drop_zero List.drop_succ_cons List.take_succ_cons List.take_zero List.take_nil and_self and_true true_and Nat.le_refl Bool.not_true Bool.not_false Option.getD_some window Val.slen bnd resV resL RV.val Bool.false_eq_true BEq.rfl Bool.true_beq Bool.false_beq beq_true beq_false mk_one ite_true ite_false eqc ceqs ceq NOp.step isK eq_self
attribute [local simp] Wd_ren Wd_wf map_i64 map_i64_wf BB.hd_ren BB.fl_ren BB.o2_ren BB.o3_ren BB.o4_ren BB.hd_wf BB.fl_wf BB.o2_wf BB.o3_wf BB.o4_wf map_u16 map_u16_wf one_ren one_wf cn_ren cn_wf
def bump (cnt : Int → Int) (i : Int) : Int → Int := fun x => if x = i then cnt i + 1 else cnt x
theorem cnV_upd (cnt : Int → Int) (i : Int) : updF (cnV cnt) i (.i .i64 (cnt i + 1)) = cnV (bump cnt i) := by
  funext x; unfold updF cnV bump; split <;> rfl
/-- How many of them are below. -/
def blw (ks : List Int) (t : Int) : Nat := ks.countP fun x => decide (x < t)
def b01 (p : Prop) [Decidable p] : Int := if p then 1 else 0
theorem countP_more {ks : List Int} {p q : Int → Bool} {i : Int} (hn : ks.Nodup) (hi : i ∈ ks) (hp : p i = false) (h : ∀ x ∈ ks, q x = (p x || decide (x = i))) : ks.countP q = ks.countP p + 1 := by
  induction ks with
  | nil => simp at hi
  | cons y r ih =>
    obtain ⟨h1, h2⟩ := List.nodup_cons.1 hn
    have hy := h y (by simp)
    by_cases e : y = i
    · subst e
      have : r.countP q = r.countP p := List.countP_congr fun x hx => by
        have := h x (by simp [hx])
        have hne : x ≠ y := by rintro rfl; exact h1 hx
        simp [this, hne]
      rw [List.countP_cons, List.countP_cons, this, hy, hp]; simp
    · have hi' : i ∈ r := by rcases List.mem_cons.1 hi with q | q; (· exact absurd q.symm e); exact q
      have := ih h2 hi' fun x hx => h x (by simp [hx])
      rw [List.countP_cons, List.countP_cons, this, hy]
      simp [e]; omega
theorem blw_le (ks : List Int) (t : Int) : blw ks t ≤ ks.length := List.countP_le_length
theorem blw_all {ks : List Int} {t : Int} (h : ∀ x ∈ ks, x < t) : blw ks t = ks.length := List.countP_eq_length.2 fun x hx => by simpa using h x hx
theorem blw_none {ks : List Int} {t : Int} (h : ∀ x ∈ ks, ¬ x < t) : blw ks t = 0 := List.countP_eq_zero.2 fun x hx => by simpa using h x hx
theorem blw_full {ks : List Int} {t : Int} (h : blw ks t = ks.length) : ∀ x ∈ ks, x < t := fun x hx => by simpa using List.countP_eq_length.1 h x hx
theorem blw_zero {ks : List Int} {t : Int} (h : blw ks t = 0) : ∀ x ∈ ks, ¬ x < t := fun x hx => by simpa using List.countP_eq_zero.1 h x hx
theorem blw_mono {ks : List Int} {s t : Int} (h : s ≤ t) : blw ks s ≤ blw ks t := List.countP_mono_left fun x _ hx => by simp at hx ⊢; omega
theorem blw_eq : ∀ {ks : List Int} {s t : Int}, s ≤ t → blw ks s = blw ks t → ∀ x ∈ ks, x < t → x < s
  | [], _, _, _, _, x, hx => by simp at hx
  | y :: r, s, t, hst, h, x, hx => by
    have hm := blw_mono (ks := r) hst
    unfold blw at h hm
    rw [List.countP_cons, List.countP_cons] at h
    have hyy : y < t → y < s := by
      intro hy
      apply Classical.byContradiction
      intro hn
      simp [hy, hn] at h; omega
    have hr : blw r s = blw r t := by
      unfold blw
      by_cases h1 : y < s
      · have h2 : y < t := by omega
        simp [h1, h2] at h; exact h
      · have h2 : ¬ y < t := fun q => h1 (hyy q)
        simp [h1, h2] at h; exact h
    rcases List.mem_cons.1 hx with rfl | hx
    · exact hyy
    · exact blw_eq hst hr x hx
/-- What is known when r were told, from s on, w times round; the next one is asked for at a. -/
structure Rd (ks : List Int) (s : Int) (r w : Nat) (a : Int) (ms : List Int) (cnt : Int → Int) : Prop where
  sum : (r : Int) = w * ks.length + blw ks a - blw ks s
  cn : ∀ x ∈ ks, cnt x = w + b01 (x < a) - b01 (x < s)
  nodup : ms.Nodup
  sub : ∀ x ∈ ms, x ∈ ks
  out : ∀ x ∈ ks, x ∉ ms → cnt x = 0
  bnd : ∀ x, 0 ≤ cnt x ∧ cnt x ≤ r
theorem Rd.zero (ks : List Int) (s : Int) : Rd ks s 0 0 s [] (fun _ => 0) :=
  ⟨by simp, fun x _ => by simp, List.nodup_nil, by simp, fun _ _ _ => rfl, fun _ => by simp⟩
def addm (ms : List Int) (i : Int) : List Int := if i ∈ ms then ms else ms ++ [i]
theorem Rd.step {ks : List Int} {s : Int} {r w w' : Nat} {a : Int} {ms : List Int} {cnt : Int → Int} (h : Rd ks s r w a ms cnt) (hn : ks.Nodup) {i : Int} (hi : i ∈ ks)
    (hs : (w' : Int) * ks.length + blw ks (i + 1) = w * ks.length + blw ks a + 1) (hc : ∀ x ∈ ks, (w' : Int) + b01 (x < i + 1) = w + b01 (x < a) + b01 (x = i)) : Rd ks s (r + 1) w' (i + 1) (addm ms i) (bump cnt i) := by
  refine ⟨by have := h.sum; push_cast; omega, fun x hx => ?_, ?_, fun x hx => ?_, fun x hx hxn => ?_, fun x => ?_⟩
  · have h1 := h.cn x hx
    have h2 := hc x hx
    unfold bump
    by_cases e : x = i
    · subst e; rw [if_pos rfl]; have : b01 (x = x) = 1 := if_pos rfl; omega
    · rw [if_neg e]; have : b01 (x = i) = 0 := if_neg e; omega
  · unfold addm
    split
    · exact h.nodup
    · rename_i hm
      rw [List.nodup_append]
      exact ⟨h.nodup, by simp, fun y hy c hc => by simp at hc; subst hc; rintro rfl; exact hm hy⟩
  · unfold addm at hx
    split at hx
    · exact h.sub x hx
    · rcases List.mem_append.1 hx with hx | hx
      · exact h.sub x hx
      · simp at hx; subst hx; exact hi
  · have hxm : x ∉ ms ∧ x ≠ i := by
      unfold addm at hxn
      split at hxn
      · rename_i hm; exact ⟨hxn, by rintro rfl; exact hxn hm⟩
      · simp at hxn; exact hxn
    unfold bump
    rw [if_neg hxm.2]; exact h.out x hx hxm.1
  · have h1 := h.bnd x
    have h2 := h.bnd i
    unfold bump
    split <;> push_cast <;> omega
/-- One more, ahead. -/
theorem Rd.next {ks : List Int} {s : Int} {r w : Nat} {a : Int} {ms : List Int} {cnt : Int → Int} (h : Rd ks s r w a ms cnt) (hn : ks.Nodup) {i : Int} (hi : i ∈ ks) (hge : a ≤ i) (hle : ∀ x ∈ ks, a ≤ x → i ≤ x) :
    Rd ks s (r + 1) w (i + 1) (addm ms i) (bump cnt i) := by
  have key : ∀ x ∈ ks, (x < i + 1) ↔ (x < a ∨ x = i) := fun x hx => by have := hle x hx; omega
  refine h.step hn hi ?_ fun x hx => ?_
  · have : blw ks (i + 1) = blw ks a + 1 := countP_more hn hi (by simpa using hge) fun x hx => by rw [Bool.eq_iff_iff]; simp; exact key x hx
    omega
  · have := key x hx
    unfold b01
    by_cases h1 : x < a
    · have h2 : ¬ x = i := by omega
      simp [h1, h2, this]
    · by_cases h2 : x = i
      · simp [h1, h2, this]; omega
      · simp [h1, h2, this]
/-- One more, round. -/
theorem Rd.turn {ks : List Int} {s : Int} {r w : Nat} {a : Int} {ms : List Int} {cnt : Int → Int} (h : Rd ks s r w a ms cnt) (hn : ks.Nodup) {i : Int} (hi : i ∈ ks) (hno : ∀ x ∈ ks, x < a) (hle : ∀ x ∈ ks, i ≤ x) :
    Rd ks s (r + 1) (w + 1) (i + 1) (addm ms i) (bump cnt i) := by
  have key : ∀ x ∈ ks, (x < i + 1) ↔ (x = i) := fun x hx => by have := hle x hx; omega
  refine h.step hn hi ?_ fun x hx => ?_
  · have h1 : blw ks (i + 1) = blw ks i + 1 := countP_more hn hi (by simp) fun x hx => by rw [Bool.eq_iff_iff]; simp; omega
    have h2 : blw ks i = 0 := blw_none fun x hx => by have := hle x hx; omega
    have h3 := blw_all hno
    push_cast
    rw [Int.add_mul, h1, h2, h3]; omega
  · have h1 := key x hx
    have h2 := hno x hx
    unfold b01
    simp [h1, h2] <;> omega
theorem Rd.fin {ks : List Int} {s : Int} {r w : Nat} {a : Int} {ms : List Int} {cnt : Int → Int} (h : Rd ks s r w a ms cnt) (hr : r = 2 * ks.length) : ∀ x ∈ ks, cnt x = 2 := by
  intro x hx
  have hl : 1 ≤ ks.length := by cases ks; simp at hx; simp
  have h1 := h.sum
  have h2 := h.cn x hx
  have h3 := blw_le ks a
  have h4 := blw_le ks s
  have hw : w = 1 ∨ w = 2 ∨ w = 3 := by
    rcases Nat.lt_or_ge w 4 with hw | hw
    · rcases Nat.lt_or_ge 0 w with h0 | h0
      · omega
      · have : w = 0 := by omega
        subst this; simp at h1; omega
    · have : 4 * ks.length ≤ w * ks.length := Nat.mul_le_mul_right _ hw
      have h5 : ((w * ks.length : Nat) : Int) = (w : Int) * ks.length := by push_cast; rfl
      omega
  unfold b01 at h2
  rcases hw with rfl | rfl | rfl
  · have h5 : blw ks a = ks.length := by push_cast at h1; omega
    have h6 : blw ks s = 0 := by push_cast at h1; omega
    have h7 := blw_full h5 x hx
    have h8 := blw_zero h6 x hx
    simp [h7, h8] at h2; omega
  · have h5 : blw ks a = blw ks s := by push_cast at h1; omega
    have h6 : (x < a) ↔ (x < s) := by
      rcases Int.le_total a s with q | q
      · exact ⟨fun z => by omega, blw_eq q h5 x hx⟩
      · exact ⟨blw_eq q h5.symm x hx, fun z => by omega⟩
    simp [h6] at h2; omega
  · have h5 : blw ks a = 0 := by push_cast at h1; omega
    have h6 : blw ks s = ks.length := by push_cast at h1; omega
    have h7 := blw_full h6 x hx
    have h8 := blw_zero h5 x hx
    simp [h7, h8] at h2; omega
theorem Rd.met {ks : List Int} {s : Int} {r w : Nat} {a : Int} {ms : List Int} {cnt : Int → Int} (h : Rd ks s r w a ms cnt) {i : Int} (hi : i ∈ ks) : ∃ q, findV (.int .i64) (.i .i64 i) (MV .i64 ms (cnV cnt)) 0 = some q ∧
    (q = none ∧ i ∉ ms ∧ cnt i = 0 ∨ ∃ j, q = some (j, .i .i64 (cnt i)) ∧ i ∈ ms) := by
  by_cases hm : i ∈ ms
  · exact ⟨_, findV_in hm, .inr ⟨_, rfl, hm⟩⟩
  · exact ⟨_, findV_out hm, .inl ⟨rfl, hm, h.out i hi hm⟩⟩
/-- What Round tells. -/
theorem PL.round {b : BB} {n : Nat} {ks l : List Int} (h : PL b n ks l) {a : Int} (ha : 0 ≤ a) {o : Option Nat} (ho : IsRound b.p a.toNat o) :
    (o = none ∧ ks = []) ∨ ∃ i : Nat, o = some i ∧ (i : Int) ∈ ks ∧ ((a ≤ i ∧ ∀ x ∈ ks, a ≤ x → i ≤ x) ∨ ((∀ x ∈ ks, x < a) ∧ ∀ x ∈ ks, (i : Int) ≤ x)) := by
  have mk : ∀ x ∈ ks, ∃ j : Nat, x = j ∧ b.p j = true := by
    intro x hx
    have hr := h.range x hx
    obtain ⟨j, rfl⟩ : ∃ j : Nat, x = j := ⟨x.toNat, by omega⟩
    exact ⟨j, rfl, (h.marks j).2 hx⟩
  have low : ∀ {c i : Nat}, IsNext b.p c (some i) → (i : Int) ∈ ks ∧ (c : Int) ≤ i ∧ ∀ x ∈ ks, (c : Int) ≤ x → (i : Int) ≤ x := by
    intro c i hi
    refine ⟨(h.marks i).1 hi.is, by have := hi.ge; omega, fun x hx hc => ?_⟩
    obtain ⟨j, rfl, hj⟩ := mk x hx
    apply Classical.byContradiction
    intro hn
    have := hi.le j (by omega) (by omega)
    rw [hj] at this; exact Bool.noConfusion this
  have non : ∀ {c : Nat}, IsNext b.p c none → ∀ x ∈ ks, x < c := by
    intro c hi x hx
    obtain ⟨j, rfl, hj⟩ := mk x hx
    apply Classical.byContradiction
    intro hn
    have := hi j (by omega)
    rw [hj] at this; exact Bool.noConfusion this
  rcases ho with ⟨i, hi, rfl⟩ | ⟨h1, h2⟩
  · obtain ⟨g1, g2, g3⟩ := low hi
    exact .inr ⟨i, rfl, g1, .inl ⟨by omega, fun x hx hax => g3 x hx (by omega)⟩⟩
  · cases o with
    | none =>
      refine .inl ⟨rfl, ?_⟩
      cases ks with
      | nil => rfl
      | cons x r =>
        have := non h2 x (by simp)
        have := h.range x (by simp)
        omega
    | some i =>
      obtain ⟨g1, g2, g3⟩ := low h2
      refine .inr ⟨i, rfl, g1, .inr ⟨fun x hx => by have := non h1 x hx; omega, fun x hx => g3 x hx ?_⟩⟩
      have := h.range x hx
      omega
theorem cnV_upd0 {cnt : Int → Int} {i : Int} (h : cnt i = 0) : updF (cnV cnt) i (.i .i64 1) = cnV (bump cnt i) := by
  have := cnV_upd cnt i
  rw [h] at this; exact this
def rH (l : List Int) (b : BB) (ks ms : List Int) (cnt : Int → Int) : Heap := [.ro (l.map (.i .u16)), .rw (b.hd 2), .rw (b.fl 3 4 5), b.o2, b.o3, b.o4, .map (MV .i64 ks one) ks.length, .map (MV .i64 ms (cnV cnt)) ms.length]
def RdInv (l : List Int) (b : BB) (ks : List Int) (s : Int) (n c : Nat) (ρ : Env) (H : Heap) : Prop :=
  ∃ (r w : Nat) (a : Int) (ms : List Int) (cnt : Int → Int), c + r = 2 * ks.length ∧ Rd ks s r w a ms cnt ∧ 0 ≤ a ∧ a ≤ n ∧ AnewS 1 (rH l b ks ms cnt) [(7, .p 1 0), (9, .m 6), (10, .i .i64 a), (11, .m 7), (12, .i .i64 (a - 1)), (13, .b (decide (0 < w))), (35, .i .i64 (2 * (ks.length : Int))), (36, .i .i64 r)] ρ H
def RgInv (l : List Int) (b : BB) (ks ms : List Int) (cnt : Int → Int) (a : Int) (c : Nat) (ρ : Env) (H : Heap) : Prop :=
  ∃ seen, c = unseen ks.length seen ∧ AnewS 1 [.ro (l.map (.i .u16)), .rw (b.hd 2), .rw (b.fl 3 4 5), b.o2, b.o3, b.o4, .map (MV .i64 ks one) ks.length, .map (MV .i64 ms (cnV cnt)) ms.length, .iter 6 ks.length seen ks.length] [(7, .p 1 0), (9, .m 6), (10, .i .i64 a), (11, .m 7), (71, .p 8 0)] ρ H
theorem BitmapRound_sound (a0 : Int) (l1 : List (Int)) (sv1 : Val) (a2 : Int)
    (w0 : (Lit.int .u16 a0).wf = true) (s1 : SlArg sv1 0 l1.length 1) (m1 : l1.length ≤ maxLen) (e1 : ∀ x ∈ l1, (Lit.int .u16 x).wf = true) (w2 : (Lit.int .u16 a2).wf = true) :
    SoundM Tryd.prog 1 3 [.i .u16 a0, sv1, .i .u16 a2] [.ro (l1.flatMap fun x => [.i .u16 x])] (fun v _ => v = .b true) := by
  rw [flat1]
  have hren : ∀ ι : Nat → Nat, ι 0 = 0 → sv1.ren ι = sv1 := by rcases s1 with ⟨_, rfl⟩ | rfl <;> intro ι h <;> simp [Val.ren, h]
  have hwf : ∀ k, 0 < k → sv1.wf k = true := by rcases s1 with ⟨_, rfl⟩ | rfl <;> intro k h <;> simp [Val.wf, h]
  have w2' := U16_wf w2
  refine sound_func Tryd.func3 c3 rfl (by simp) ?_
  simp only [e3]
  repeat (first
    | ((first | (with_reducible first | apply Aa | apply Ab | apply Ac | apply Ad | apply Ae | apply Af | apply Na | apply Nb) | ((with_reducible first | apply Ag | apply Ah | apply Nc); · (simp only [go_sem, reduceIte, Nat.reduceEqDiff]; (try with_reducible exact rfl)))); · (simp only [go_sem, Int.reduceBEq, Int.reduceBNe, Int.reduceLT, Int.reduceLE, Int.reduceAdd, Int.reduceSub, Int.reduceToNat, reduceIte, Nat.reduceEqDiff, Nat.reduceAdd, Nat.reduceMul, Nat.reduceLeDiff, Nat.reduceSub, reduceCtorEq]; (try simp (disch := omega) only [OM, mn_lo, mn_hi, mx_lo, mx_hi, if_yes, if_no, Option.map_some]); (try with_reducible exact rfl)))
    | ((with_reducible first | apply Ba | apply Bb | apply Bc | apply Bd | apply Be | apply Nd); · (simp only [go_sem, reduceIte, Nat.reduceEqDiff]; (try with_reducible exact rfl))) | ((with_reducible first | apply Ca | apply Cb | apply Cc | apply Cd | apply Ce | apply Ne); · (simp only [go_sem, reduceIte, Nat.reduceEqDiff]; (try with_reducible exact rfl)))
    | ((with_reducible first | apply Dg | apply Dh); (· decide +kernel); (· (simp only [inOrd, List.getElem?_cons_succ, List.getElem?_cons_zero]; exact rfl)))
    | ((with_reducible first | apply De | apply Df); (· decide +kernel); (· (simp only [inOrd, List.getElem?_cons_succ, List.getElem?_cons_zero]; exact rfl)))
    | (with_reducible first | apply Ea | apply Eb | apply Ec | apply Ed | apply Ee | apply Ef | apply Eg | apply Eh | apply Ei | apply Ej | apply Ek | apply El | apply Em | apply En | apply Eo) | ((with_reducible apply Ep); · rfl))
  (first | ((with_reducible apply RunP.call); (· (simp only [go_sem, reduceIte, Nat.reduceEqDiff]; (try with_reducible exact rfl))); (· (simp only [go_sem, reduceIte, Nat.reduceEqDiff]; (try with_reducible exact rfl)))) | ((with_reducible apply Run.call); (· (simp only [go_sem, reduceIte, Nat.reduceEqDiff]; (try with_reducible exact rfl))); (· (simp only [go_sem, reduceIte, Nat.reduceEqDiff]; (try with_reducible exact rfl)))) | ((with_reducible apply Run.callY); (· (simp only [go_sem, reduceIte, Nat.reduceEqDiff]; (try with_reducible exact rfl))); (· (simp only [go_sem, reduceIte, Nat.reduceEqDiff]; (try with_reducible exact rfl))); (· (simp only [go_sem, reduceIte, Nat.reduceEqDiff]; (try with_reducible exact rfl)))) | ((with_reducible apply RunP.callY); (· (simp only [go_sem, reduceIte, Nat.reduceEqDiff]; (try with_reducible exact rfl))); (· (simp only [go_sem, reduceIte, Nat.reduceEqDiff]; (try with_reducible exact rfl))); (· (simp only [go_sem, reduceIte, Nat.reduceEqDiff]; (try with_reducible exact rfl)))) | ((with_reducible apply Run.call0); (· (simp only [go_sem, reduceIte, Nat.reduceEqDiff]; (try with_reducible exact rfl))); (· (simp only [go_sem, reduceIte, Nat.reduceEqDiff]; (try with_reducible exact rfl)))))
  refine sound_use (played_c a0 l1 sv1 (U16_wf w0) (fun x hx => U16_wf (e1 x hx)) s1 m1) [0] rfl (by decide) (by simp [-List.map_map, embAt, nm, rn_rw, rn_ro, rn_map, rn_iter, rn_dead, renL, Val.ren, hren, hwf]) (by simp [-List.map_map, wfAll, wn_rw, wn_ro, wn_map, wn_iter, wn_dead, wfL, Val.wf, hren, hwf]) (by simp [-List.map_map, Val.wf, wfL, hren, hwf]) (by simp [-List.map_map, Val.ren, renL, nm, hren, hwf]) ?_
  rintro v C' ⟨b, ks, hP, rfl, rfl⟩
  generalize hn : a0.toNat + 1 = n at hP
  unfold pH
  simp only [merge, place, after, nm, MG, Val.ren, renL, rn_rw, rn_ro, rn_map, rn_iter, rn_dead, reduceIte, Nat.reduceLT, Nat.reduceAdd, Nat.reduceSub, Nat.lt_irrefl, Nat.zero_lt_one, Nat.zero_lt_succ, BB.hd_ren, BB.fl_ren, BB.o2_ren, BB.o3_ren, BB.o4_ren, one_ren, map_u16]
  have hn0 := hP.good.ok.n0
  have hn1 := hP.good.ok.n1
  have hbn := hP.good.n
  rw [hbn] at hn0 hn1
  have hnz : ¬ (n : Int) = 0 := by omega
  have hr0 : 0 ≤ a2 % (n : Int) := Int.emod_nonneg _ (by omega)
  have hr1 : a2 % (n : Int) < n := Int.emod_lt_of_pos _ (by omega)
  have hkl : ks.length ≤ 65536 := by have := hP.k; have := hP.good.ok.k1; omega
  repeat (first
    | ((first | (with_reducible first | apply Aa | apply Ab | apply Ac | apply Ad | apply Ae | apply Af | apply Na | apply Nb) | ((with_reducible first | apply Ag | apply Ah | apply Nc); · (simp only [go_sem, reduceIte, Nat.reduceEqDiff, hnz, lenOf, MV_len]; (try with_reducible exact rfl)))); · (simp only [go_sem, Int.reduceBEq, Int.reduceBNe, Int.reduceLT, Int.reduceLE, Int.reduceAdd, Int.reduceSub, Int.reduceToNat, reduceIte, Nat.reduceEqDiff, Nat.reduceAdd, Nat.reduceMul, Nat.reduceLeDiff, Nat.reduceSub, reduceCtorEq, hnz, lenOf, MV_len]; (try simp (disch := omega) only [OM, mn_lo, mn_hi, mx_lo, mx_hi, if_yes, if_no, Option.map_some, hnz, lenOf, MV_len]); (try with_reducible exact rfl)))
    | ((with_reducible first | apply Ba | apply Bb | apply Bc | apply Bd | apply Be | apply Nd); · (simp only [go_sem, reduceIte, Nat.reduceEqDiff, hnz, lenOf, MV_len]; (try with_reducible exact rfl))) | ((with_reducible first | apply Ca | apply Cb | apply Cc | apply Cd | apply Ce | apply Ne); · (simp only [go_sem, reduceIte, Nat.reduceEqDiff, hnz, lenOf, MV_len]; (try with_reducible exact rfl)))
    | ((with_reducible first | apply Dg | apply Dh); (· decide +kernel); (· (simp only [inOrd, List.getElem?_cons_succ, List.getElem?_cons_zero]; exact rfl)))
    | ((with_reducible first | apply De | apply Df); (· decide +kernel); (· (simp only [inOrd, List.getElem?_cons_succ, List.getElem?_cons_zero]; exact rfl)))
    | (with_reducible first | apply Ea | apply Eb | apply Ec | apply Ed | apply Ee | apply Ef | apply Eg | apply Eh | apply Ei | apply Ej | apply Ek | apply El | apply Em | apply En | apply Eo) | ((with_reducible apply Ep); · rfl))
  obtain ⟨s, hs⟩ : ∃ s, a2 % (n : Int) = s := ⟨_, rfl⟩
  rw [hs] at hr0 hr1 ⊢
  refine ei_loop (RdInv l1 b ks s n) (n := 2 * ks.length) ?_ ?_
  · refine ⟨0, 0, s, [], fun _ => 0, rfl, Rd.zero ks s, hr0, by omega, ?_⟩
    unfold rH
    refine anew [0, 1, 2, 3, 4, 5, 6, 7] (by simp [MV_nil] <;> fail) (by decide) (by simp [-List.map_map, embAt, nm, rn_rw, rn_ro, rn_map, rn_iter, rn_dead, renL, Val.ren, MV_nil]) (by simp [-List.map_map, wfAll, wn_rw, wn_ro, wn_map, wn_iter, wn_dead, wfL, Val.wf, MV_nil]) (by simp [MV_nil]) rfl (by simp [-List.map_map, Val.wf, wfL, MV_nil]) (by simp [-List.map_map, Env.get, Val.ren, renL, nm, initEnv, MV_nil])
  · rintro c ρ H ⟨r, w, a, ms, cnt, hc, hR, ha0, han, ha⟩
    refine ei_anewS ha ?_
    clear ha
    unfold rH
    by_cases c1 : r < 2 * ks.length
    · have hd1 : decide ((r : Int) < 2 * (ks.length : Int)) = true := decide_t (by omega)
      repeat (first
    | ((first | (with_reducible first | apply Aa | apply Ab | apply Ac | apply Ad | apply Ae | apply Af | apply Na | apply Nb) | ((with_reducible first | apply Ag | apply Ah | apply Nc); · (simp only [go_sem, reduceIte, Nat.reduceEqDiff, hd1]; (try with_reducible exact rfl)))); · (simp only [go_sem, Int.reduceBEq, Int.reduceBNe, Int.reduceLT, Int.reduceLE, Int.reduceAdd, Int.reduceSub, Int.reduceToNat, reduceIte, Nat.reduceEqDiff, Nat.reduceAdd, Nat.reduceMul, Nat.reduceLeDiff, Nat.reduceSub, reduceCtorEq, hd1]; (try simp (disch := omega) only [OM, mn_lo, mn_hi, mx_lo, mx_hi, if_yes, if_no, Option.map_some, hd1]); (try with_reducible exact rfl)))
    | ((with_reducible first | apply Ba | apply Bb | apply Bc | apply Bd | apply Be | apply Nd); · (simp only [go_sem, reduceIte, Nat.reduceEqDiff, hd1]; (try with_reducible exact rfl))) | ((with_reducible first | apply Ca | apply Cb | apply Cc | apply Cd | apply Ce | apply Ne); · (simp only [go_sem, reduceIte, Nat.reduceEqDiff, hd1]; (try with_reducible exact rfl)))
    | ((with_reducible first | apply Dg | apply Dh); (· decide +kernel); (· (simp only [inOrd, List.getElem?_cons_succ, List.getElem?_cons_zero]; exact rfl)))
    | ((with_reducible first | apply De | apply Df); (· decide +kernel); (· (simp only [inOrd, List.getElem?_cons_succ, List.getElem?_cons_zero]; exact rfl)))
    | (with_reducible first | apply Ea | apply Eb | apply Ec | apply Ed | apply Ee | apply Ef | apply Eg | apply Eh | apply Ei | apply Ej | apply Ek | apply El | apply Em | apply En | apply Eo) | ((with_reducible apply Ep); · rfl))
      (first | ((with_reducible apply RunP.call); (· (simp only [go_sem, reduceIte, Nat.reduceEqDiff]; (try with_reducible exact rfl))); (· (simp only [go_sem, reduceIte, Nat.reduceEqDiff]; (try with_reducible exact rfl)))) | ((with_reducible apply Run.call); (· (simp only [go_sem, reduceIte, Nat.reduceEqDiff]; (try with_reducible exact rfl))); (· (simp only [go_sem, reduceIte, Nat.reduceEqDiff]; (try with_reducible exact rfl)))) | ((with_reducible apply Run.callY); (· (simp only [go_sem, reduceIte, Nat.reduceEqDiff]; (try with_reducible exact rfl))); (· (simp only [go_sem, reduceIte, Nat.reduceEqDiff]; (try with_reducible exact rfl))); (· (simp only [go_sem, reduceIte, Nat.reduceEqDiff]; (try with_reducible exact rfl)))) | ((with_reducible apply RunP.callY); (· (simp only [go_sem, reduceIte, Nat.reduceEqDiff]; (try with_reducible exact rfl))); (· (simp only [go_sem, reduceIte, Nat.reduceEqDiff]; (try with_reducible exact rfl))); (· (simp only [go_sem, reduceIte, Nat.reduceEqDiff]; (try with_reducible exact rfl)))) | ((with_reducible apply Run.call0); (· (simp only [go_sem, reduceIte, Nat.reduceEqDiff]; (try with_reducible exact rfl))); (· (simp only [go_sem, reduceIte, Nat.reduceEqDiff]; (try with_reducible exact rfl)))))
      refine sound_use (roundP b hP.good.ok a) [1, 2, 3, 4, 5] rfl (by decide) (by simp [-List.map_map, embAt, nm, rn_rw, rn_ro, rn_map, rn_iter, rn_dead, renL, Val.ren, BB.pad]) (by simp [-List.map_map, wfAll, wn_rw, wn_ro, wn_map, wn_iter, wn_dead, wfL, Val.wf, BB.pad]) (by simp [-List.map_map, Val.wf, wfL, BB.pad]) (by simp [-List.map_map, Val.ren, renL, nm, BB.pad]) ?_
      rintro v C' ⟨rfl, o, ho, rfl⟩
      rcases hP.round ha0 ho with ⟨_, hz⟩ | ⟨i, rfl, hi, hcase⟩
      · rw [hz] at c1; exact absurd c1 (by simp)
      have hir := hP.range _ hi
      have hb := hR.bnd i
      have hcn := hR.cn i hi
      simp only [ans]
      simp only [merge, place, after, nm, MG, Val.ren, renL, rn_rw, rn_ro, rn_map, rn_iter, rn_dead, reduceIte, Nat.reduceLT, Nat.reduceAdd, Nat.reduceSub, Nat.lt_irrefl, Nat.zero_lt_one, Nat.zero_lt_succ, BB.pad, BB.hd_ren, BB.fl_ren, BB.o2_ren, BB.o3_ren, BB.o4_ren, one_ren, map_u16, cn_ren]
      rcases hcase with ⟨hge, hle⟩ | ⟨hno, hle⟩
      · have hR' := hR.next hP.nodup hi hge hle
        have hle1 : decide ((i : Int) ≤ a - 1) = false := decide_f (by omega)
        by_cases hm : (i : Int) ∈ ms
        · have ham : addm ms i = ms := if_pos hm
          rw [ham] at hR'
          repeat (first
    | ((first | (with_reducible first | apply Aa | apply Ab | apply Ac | apply Ad | apply Ae | apply Af | apply Na | apply Nb) | ((with_reducible first | apply Ag | apply Ah | apply Nc); · (simp only [go_sem, reduceIte, Nat.reduceEqDiff, findV_in hi, findV_in hm, born_in hm, MV_set _ hR.nodup hm, cnV_upd, cnV_at, one_at, hle1]; (try with_reducible exact rfl)))); · (simp only [go_sem, Int.reduceBEq, Int.reduceBNe, Int.reduceLT, Int.reduceLE, Int.reduceAdd, Int.reduceSub, Int.reduceToNat, reduceIte, Nat.reduceEqDiff, Nat.reduceAdd, Nat.reduceMul, Nat.reduceLeDiff, Nat.reduceSub, reduceCtorEq, findV_in hi, findV_in hm, born_in hm, MV_set _ hR.nodup hm, cnV_upd, cnV_at, one_at, hle1]; (try simp (disch := omega) only [OM, mn_lo, mn_hi, mx_lo, mx_hi, if_yes, if_no, Option.map_some, findV_in hi, findV_in hm, born_in hm, MV_set _ hR.nodup hm, cnV_upd, cnV_at, one_at, hle1]); (try with_reducible exact rfl)))
    | ((with_reducible first | apply Ba | apply Bb | apply Bc | apply Bd | apply Be | apply Nd); · (simp only [go_sem, reduceIte, Nat.reduceEqDiff, findV_in hi, findV_in hm, born_in hm, MV_set _ hR.nodup hm, cnV_upd, cnV_at, one_at, hle1]; (try with_reducible exact rfl))) | ((with_reducible first | apply Ca | apply Cb | apply Cc | apply Cd | apply Ce | apply Ne); · (simp only [go_sem, reduceIte, Nat.reduceEqDiff, findV_in hi, findV_in hm, born_in hm, MV_set _ hR.nodup hm, cnV_upd, cnV_at, one_at, hle1]; (try with_reducible exact rfl)))
    | ((with_reducible first | apply Dg | apply Dh); (· decide +kernel); (· (simp only [inOrd, List.getElem?_cons_succ, List.getElem?_cons_zero]; exact rfl)))
    | ((with_reducible first | apply De | apply Df); (· decide +kernel); (· (simp only [inOrd, List.getElem?_cons_succ, List.getElem?_cons_zero]; exact rfl)))
    | (with_reducible first | apply Ea | apply Eb | apply Ec | apply Ed | apply Ee | apply Ef | apply Eg | apply Eh | apply Ei | apply Ej | apply Ek | apply El | apply Em | apply En | apply Eo) | ((with_reducible apply Ep); · rfl))
          refine ⟨c - 1, by omega, r + 1, _, _, _, _, by omega, hR', by omega, by omega, ?_⟩
          unfold rH
          refine anew [0, 1, 2, 3, 4, 5, 6, 7] (by simp [nc0] <;> fail) (by decide) (by simp [-List.map_map, embAt, nm, rn_rw, rn_ro, rn_map, rn_iter, rn_dead, renL, Val.ren, nc0]) (by simp [-List.map_map, wfAll, wn_rw, wn_ro, wn_map, wn_iter, wn_dead, wfL, Val.wf, nc0]) (by simp [nc0]) rfl (by simp [-List.map_map, Val.wf, wfL, nc0]) (by simp [-List.map_map, Env.get, Val.ren, renL, nm, initEnv, nc0])
        · have ham : addm ms i = ms ++ [(i : Int)] := if_neg hm
          rw [ham] at hR'
          have hz := hR.out _ hi hm
          repeat (first
    | ((first | (with_reducible first | apply Aa | apply Ab | apply Ac | apply Ad | apply Ae | apply Af | apply Na | apply Nb) | ((with_reducible first | apply Ag | apply Ah | apply Nc); · (simp only [go_sem, reduceIte, Nat.reduceEqDiff, findV_in hi, findV_out hm, MV_push _ hm, cnV_upd0 hz, one_at, hle1]; (try with_reducible exact rfl)))); · (simp only [go_sem, Int.reduceBEq, Int.reduceBNe, Int.reduceLT, Int.reduceLE, Int.reduceAdd, Int.reduceSub, Int.reduceToNat, reduceIte, Nat.reduceEqDiff, Nat.reduceAdd, Nat.reduceMul, Nat.reduceLeDiff, Nat.reduceSub, reduceCtorEq, findV_in hi, findV_out hm, MV_push _ hm, cnV_upd0 hz, one_at, hle1]; (try simp (disch := omega) only [OM, mn_lo, mn_hi, mx_lo, mx_hi, if_yes, if_no, Option.map_some, findV_in hi, findV_out hm, MV_push _ hm, cnV_upd0 hz, one_at, hle1]); (try with_reducible exact rfl)))
    | ((with_reducible first | apply Ba | apply Bb | apply Bc | apply Bd | apply Be | apply Nd); · (simp only [go_sem, reduceIte, Nat.reduceEqDiff, findV_in hi, findV_out hm, MV_push _ hm, cnV_upd0 hz, one_at, hle1]; (try with_reducible exact rfl))) | ((with_reducible first | apply Ca | apply Cb | apply Cc | apply Cd | apply Ce | apply Ne); · (simp only [go_sem, reduceIte, Nat.reduceEqDiff, findV_in hi, findV_out hm, MV_push _ hm, cnV_upd0 hz, one_at, hle1]; (try with_reducible exact rfl)))
    | ((with_reducible first | apply Dg | apply Dh); (· decide +kernel); (· (simp only [inOrd, List.getElem?_cons_succ, List.getElem?_cons_zero]; exact rfl)))
    | ((with_reducible first | apply De | apply Df); (· decide +kernel); (· (simp only [inOrd, List.getElem?_cons_succ, List.getElem?_cons_zero]; exact rfl)))
    | (with_reducible first | apply Ea | apply Eb | apply Ec | apply Ed | apply Ee | apply Ef | apply Eg | apply Eh | apply Ei | apply Ej | apply Ek | apply El | apply Em | apply En | apply Eo) | ((with_reducible apply Ep); · rfl))
          refine ⟨c - 1, by omega, r + 1, _, _, _, _, by omega, hR', by omega, by omega, ?_⟩
          unfold rH
          refine anew [0, 1, 2, 3, 4, 5, 6, 7] (by simp [nc0] <;> fail) (by decide) (by simp [-List.map_map, embAt, nm, rn_rw, rn_ro, rn_map, rn_iter, rn_dead, renL, Val.ren, nc0]) (by simp [-List.map_map, wfAll, wn_rw, wn_ro, wn_map, wn_iter, wn_dead, wfL, Val.wf, nc0]) (by simp [nc0]) rfl (by simp [-List.map_map, Val.wf, wfL, nc0]) (by simp [-List.map_map, Env.get, Val.ren, renL, nm, initEnv, nc0])
      · have hR' := hR.turn hP.nodup hi hno hle
        have hlt := hno _ hi
        have hle1 : decide ((i : Int) ≤ a - 1) = true := decide_t (by omega)
        have hw1 : decide (0 < w + 1) = true := decide_t (by omega)
        cases hw : decide (0 < w)
        · have hmm := True.intro
          by_cases hm : (i : Int) ∈ ms
          · have ham : addm ms i = ms := if_pos hm
            rw [ham] at hR'
            repeat (first
    | ((first | (with_reducible first | apply Aa | apply Ab | apply Ac | apply Ad | apply Ae | apply Af | apply Na | apply Nb) | ((with_reducible first | apply Ag | apply Ah | apply Nc); · (simp only [go_sem, reduceIte, Nat.reduceEqDiff, findV_in hi, findV_in hm, born_in hm, MV_set _ hR.nodup hm, cnV_upd, cnV_at, one_at, hle1]; (try with_reducible exact rfl)))); · (simp only [go_sem, Int.reduceBEq, Int.reduceBNe, Int.reduceLT, Int.reduceLE, Int.reduceAdd, Int.reduceSub, Int.reduceToNat, reduceIte, Nat.reduceEqDiff, Nat.reduceAdd, Nat.reduceMul, Nat.reduceLeDiff, Nat.reduceSub, reduceCtorEq, findV_in hi, findV_in hm, born_in hm, MV_set _ hR.nodup hm, cnV_upd, cnV_at, one_at, hle1]; (try simp (disch := omega) only [OM, mn_lo, mn_hi, mx_lo, mx_hi, if_yes, if_no, Option.map_some, findV_in hi, findV_in hm, born_in hm, MV_set _ hR.nodup hm, cnV_upd, cnV_at, one_at, hle1]); (try with_reducible exact rfl)))
    | ((with_reducible first | apply Ba | apply Bb | apply Bc | apply Bd | apply Be | apply Nd); · (simp only [go_sem, reduceIte, Nat.reduceEqDiff, findV_in hi, findV_in hm, born_in hm, MV_set _ hR.nodup hm, cnV_upd, cnV_at, one_at, hle1]; (try with_reducible exact rfl))) | ((with_reducible first | apply Ca | apply Cb | apply Cc | apply Cd | apply Ce | apply Ne); · (simp only [go_sem, reduceIte, Nat.reduceEqDiff, findV_in hi, findV_in hm, born_in hm, MV_set _ hR.nodup hm, cnV_upd, cnV_at, one_at, hle1]; (try with_reducible exact rfl)))
    | ((with_reducible first | apply Dg | apply Dh); (· decide +kernel); (· (simp only [inOrd, List.getElem?_cons_succ, List.getElem?_cons_zero]; exact rfl)))
    | ((with_reducible first | apply De | apply Df); (· decide +kernel); (· (simp only [inOrd, List.getElem?_cons_succ, List.getElem?_cons_zero]; exact rfl)))
    | (with_reducible first | apply Ea | apply Eb | apply Ec | apply Ed | apply Ee | apply Ef | apply Eg | apply Eh | apply Ei | apply Ej | apply Ek | apply El | apply Em | apply En | apply Eo) | ((with_reducible apply Ep); · rfl))
            refine ⟨c - 1, by omega, r + 1, _, _, _, _, by omega, hR', by omega, by omega, ?_⟩
            unfold rH
            refine anew [0, 1, 2, 3, 4, 5, 6, 7] (by simp [hw1] <;> fail) (by decide) (by simp [-List.map_map, embAt, nm, rn_rw, rn_ro, rn_map, rn_iter, rn_dead, renL, Val.ren, hw1]) (by simp [-List.map_map, wfAll, wn_rw, wn_ro, wn_map, wn_iter, wn_dead, wfL, Val.wf, hw1]) (by simp [hw1]) rfl (by simp [-List.map_map, Val.wf, wfL, hw1]) (by simp [-List.map_map, Env.get, Val.ren, renL, nm, initEnv, hw1])
          · have ham : addm ms i = ms ++ [(i : Int)] := if_neg hm
            rw [ham] at hR'
            have hz := hR.out _ hi hm
            repeat (first
    | ((first | (with_reducible first | apply Aa | apply Ab | apply Ac | apply Ad | apply Ae | apply Af | apply Na | apply Nb) | ((with_reducible first | apply Ag | apply Ah | apply Nc); · (simp only [go_sem, reduceIte, Nat.reduceEqDiff, findV_in hi, findV_out hm, MV_push _ hm, cnV_upd0 hz, one_at, hle1]; (try with_reducible exact rfl)))); · (simp only [go_sem, Int.reduceBEq, Int.reduceBNe, Int.reduceLT, Int.reduceLE, Int.reduceAdd, Int.reduceSub, Int.reduceToNat, reduceIte, Nat.reduceEqDiff, Nat.reduceAdd, Nat.reduceMul, Nat.reduceLeDiff, Nat.reduceSub, reduceCtorEq, findV_in hi, findV_out hm, MV_push _ hm, cnV_upd0 hz, one_at, hle1]; (try simp (disch := omega) only [OM, mn_lo, mn_hi, mx_lo, mx_hi, if_yes, if_no, Option.map_some, findV_in hi, findV_out hm, MV_push _ hm, cnV_upd0 hz, one_at, hle1]); (try with_reducible exact rfl)))
    | ((with_reducible first | apply Ba | apply Bb | apply Bc | apply Bd | apply Be | apply Nd); · (simp only [go_sem, reduceIte, Nat.reduceEqDiff, findV_in hi, findV_out hm, MV_push _ hm, cnV_upd0 hz, one_at, hle1]; (try with_reducible exact rfl))) | ((with_reducible first | apply Ca | apply Cb | apply Cc | apply Cd | apply Ce | apply Ne); · (simp only [go_sem, reduceIte, Nat.reduceEqDiff, findV_in hi, findV_out hm, MV_push _ hm, cnV_upd0 hz, one_at, hle1]; (try with_reducible exact rfl)))
    | ((with_reducible first | apply Dg | apply Dh); (· decide +kernel); (· (simp only [inOrd, List.getElem?_cons_succ, List.getElem?_cons_zero]; exact rfl)))
    | ((with_reducible first | apply De | apply Df); (· decide +kernel); (· (simp only [inOrd, List.getElem?_cons_succ, List.getElem?_cons_zero]; exact rfl)))
    | (with_reducible first | apply Ea | apply Eb | apply Ec | apply Ed | apply Ee | apply Ef | apply Eg | apply Eh | apply Ei | apply Ej | apply Ek | apply El | apply Em | apply En | apply Eo) | ((with_reducible apply Ep); · rfl))
            refine ⟨c - 1, by omega, r + 1, _, _, _, _, by omega, hR', by omega, by omega, ?_⟩
            unfold rH
            refine anew [0, 1, 2, 3, 4, 5, 6, 7] (by simp [hw1] <;> fail) (by decide) (by simp [-List.map_map, embAt, nm, rn_rw, rn_ro, rn_map, rn_iter, rn_dead, renL, Val.ren, hw1]) (by simp [-List.map_map, wfAll, wn_rw, wn_ro, wn_map, wn_iter, wn_dead, wfL, Val.wf, hw1]) (by simp [hw1]) rfl (by simp [-List.map_map, Val.wf, wfL, hw1]) (by simp [-List.map_map, Env.get, Val.ren, renL, nm, initEnv, hw1])
        · have hw0 : 0 < w := of_decide_eq_true hw
          have hx1 : b01 ((i : Int) < a) = 1 := if_pos hlt
          have hx2 : b01 ((i : Int) < s) ≤ 1 := by unfold b01; split <;> omega
          have hcz : (cnt i == 0) = false := by rw [beq_eq_false_iff_ne]; omega
          have hm : (i : Int) ∈ ms := by
            apply Classical.byContradiction
            intro hm
            have := hR.out _ hi hm
            omega
          have ham : addm ms i = ms := if_pos hm
          rw [ham] at hR'
          repeat (first
    | ((first | (with_reducible first | apply Aa | apply Ab | apply Ac | apply Ad | apply Ae | apply Af | apply Na | apply Nb) | ((with_reducible first | apply Ag | apply Ah | apply Nc); · (simp only [go_sem, reduceIte, Nat.reduceEqDiff, findV_in hi, findV_in hm, born_in hm, MV_set _ hR.nodup hm, cnV_upd, cnV_at, one_at, hle1, hcz]; (try with_reducible exact rfl)))); · (simp only [go_sem, Int.reduceBEq, Int.reduceBNe, Int.reduceLT, Int.reduceLE, Int.reduceAdd, Int.reduceSub, Int.reduceToNat, reduceIte, Nat.reduceEqDiff, Nat.reduceAdd, Nat.reduceMul, Nat.reduceLeDiff, Nat.reduceSub, reduceCtorEq, findV_in hi, findV_in hm, born_in hm, MV_set _ hR.nodup hm, cnV_upd, cnV_at, one_at, hle1, hcz]; (try simp (disch := omega) only [OM, mn_lo, mn_hi, mx_lo, mx_hi, if_yes, if_no, Option.map_some, findV_in hi, findV_in hm, born_in hm, MV_set _ hR.nodup hm, cnV_upd, cnV_at, one_at, hle1, hcz]); (try with_reducible exact rfl)))
    | ((with_reducible first | apply Ba | apply Bb | apply Bc | apply Bd | apply Be | apply Nd); · (simp only [go_sem, reduceIte, Nat.reduceEqDiff, findV_in hi, findV_in hm, born_in hm, MV_set _ hR.nodup hm, cnV_upd, cnV_at, one_at, hle1, hcz]; (try with_reducible exact rfl))) | ((with_reducible first | apply Ca | apply Cb | apply Cc | apply Cd | apply Ce | apply Ne); · (simp only [go_sem, reduceIte, Nat.reduceEqDiff, findV_in hi, findV_in hm, born_in hm, MV_set _ hR.nodup hm, cnV_upd, cnV_at, one_at, hle1, hcz]; (try with_reducible exact rfl)))
    | ((with_reducible first | apply Dg | apply Dh); (· decide +kernel); (· (simp only [inOrd, List.getElem?_cons_succ, List.getElem?_cons_zero]; exact rfl)))
    | ((with_reducible first | apply De | apply Df); (· decide +kernel); (· (simp only [inOrd, List.getElem?_cons_succ, List.getElem?_cons_zero]; exact rfl)))
    | (with_reducible first | apply Ea | apply Eb | apply Ec | apply Ed | apply Ee | apply Ef | apply Eg | apply Eh | apply Ei | apply Ej | apply Ek | apply El | apply Em | apply En | apply Eo) | ((with_reducible apply Ep); · rfl))
          refine ⟨c - 1, by omega, r + 1, _, _, _, _, by omega, hR', by omega, by omega, ?_⟩
          unfold rH
          refine anew [0, 1, 2, 3, 4, 5, 6, 7] (by simp [hw1] <;> fail) (by decide) (by simp [-List.map_map, embAt, nm, rn_rw, rn_ro, rn_map, rn_iter, rn_dead, renL, Val.ren, hw1]) (by simp [-List.map_map, wfAll, wn_rw, wn_ro, wn_map, wn_iter, wn_dead, wfL, Val.wf, hw1]) (by simp [hw1]) rfl (by simp [-List.map_map, Val.wf, wfL, hw1]) (by simp [-List.map_map, Env.get, Val.ren, renL, nm, initEnv, hw1])
    · have hd1 : decide ((r : Int) < 2 * (ks.length : Int)) = false := decide_f (by omega)
      have hfin := hR.fin (by omega)
      have hmem : ∀ x ∈ ks, x ∈ ms := by
        intro x hx
        apply Classical.byContradiction
        intro hm
        have h1 := hR.out x hx hm
        have h2 := hfin x hx
        omega
      repeat (first
    | ((first | (with_reducible first | apply Aa | apply Ab | apply Ac | apply Ad | apply Ae | apply Af | apply Na | apply Nb) | ((with_reducible first | apply Ag | apply Ah | apply Nc); · (simp only [go_sem, reduceIte, Nat.reduceEqDiff, hd1]; (try with_reducible exact rfl)))); · (simp only [go_sem, Int.reduceBEq, Int.reduceBNe, Int.reduceLT, Int.reduceLE, Int.reduceAdd, Int.reduceSub, Int.reduceToNat, reduceIte, Nat.reduceEqDiff, Nat.reduceAdd, Nat.reduceMul, Nat.reduceLeDiff, Nat.reduceSub, reduceCtorEq, hd1]; (try simp (disch := omega) only [OM, mn_lo, mn_hi, mx_lo, mx_hi, if_yes, if_no, Option.map_some, hd1]); (try with_reducible exact rfl)))
    | ((with_reducible first | apply Ba | apply Bb | apply Bc | apply Bd | apply Be | apply Nd); · (simp only [go_sem, reduceIte, Nat.reduceEqDiff, hd1]; (try with_reducible exact rfl))) | ((with_reducible first | apply Ca | apply Cb | apply Cc | apply Cd | apply Ce | apply Ne); · (simp only [go_sem, reduceIte, Nat.reduceEqDiff, hd1]; (try with_reducible exact rfl)))
    | ((with_reducible first | apply Dg | apply Dh); (· decide +kernel); (· (simp only [inOrd, List.getElem?_cons_succ, List.getElem?_cons_zero]; exact rfl)))
    | ((with_reducible first | apply De | apply Df); (· decide +kernel); (· (simp only [inOrd, List.getElem?_cons_succ, List.getElem?_cons_zero]; exact rfl)))
    | (with_reducible first | apply Ea | apply Eb | apply Ec | apply Ed | apply Ee | apply Ef | apply Eg | apply Eh | apply Ei | apply Ej | apply Ek | apply El | apply Em | apply En | apply Eo) | ((with_reducible apply Ep); · rfl))
      refine ei_loop (RgInv l1 b ks ms cnt a) (n := unseen ks.length []) ?_ ?_
      · refine ⟨[], rfl, ?_⟩
        refine anew [0, 1, 2, 3, 4, 5, 6, 7, 8] (by simp [nc0] <;> fail) (by decide) (by simp [-List.map_map, embAt, nm, rn_rw, rn_ro, rn_map, rn_iter, rn_dead, renL, Val.ren, nc0]) (by simp [-List.map_map, wfAll, wn_rw, wn_ro, wn_map, wn_iter, wn_dead, wfL, Val.wf, nc0]) (by simp [nc0]) rfl (by simp [-List.map_map, Val.wf, wfL, nc0]) (by simp [-List.map_map, Env.get, Val.ren, renL, nm, initEnv, nc0])
      · rintro c ρ H ⟨seen, rfl, ha⟩
        refine ei_anewS ha ?_
        clear ha
        repeat (first
    | ((first | (with_reducible first | apply Aa | apply Ab | apply Ac | apply Ad | apply Ae | apply Af | apply Na | apply Nb) | ((with_reducible first | apply Ag | apply Ah | apply Nc); · (simp only [go_sem, reduceIte, Nat.reduceEqDiff]; (try with_reducible exact rfl)))); · (simp only [go_sem, Int.reduceBEq, Int.reduceBNe, Int.reduceLT, Int.reduceLE, Int.reduceAdd, Int.reduceSub, Int.reduceToNat, reduceIte, Nat.reduceEqDiff, Nat.reduceAdd, Nat.reduceMul, Nat.reduceLeDiff, Nat.reduceSub, reduceCtorEq]; (try simp (disch := omega) only [OM, mn_lo, mn_hi, mx_lo, mx_hi, if_yes, if_no, Option.map_some]); (try with_reducible exact rfl)))
    | ((with_reducible first | apply Ba | apply Bb | apply Bc | apply Bd | apply Be | apply Nd); · (simp only [go_sem, reduceIte, Nat.reduceEqDiff]; (try with_reducible exact rfl))) | ((with_reducible first | apply Ca | apply Cb | apply Cc | apply Cd | apply Ce | apply Ne); · (simp only [go_sem, reduceIte, Nat.reduceEqDiff]; (try with_reducible exact rfl)))
    | ((with_reducible first | apply Dg | apply Dh); (· decide +kernel); (· (simp only [inOrd, List.getElem?_cons_succ, List.getElem?_cons_zero]; exact rfl)))
    | ((with_reducible first | apply De | apply Df); (· decide +kernel); (· (simp only [inOrd, List.getElem?_cons_succ, List.getElem?_cons_zero]; exact rfl)))
    | (with_reducible first | apply Ea | apply Eb | apply Ec | apply Ed | apply Ee | apply Ef | apply Eg | apply Eh | apply Ei | apply Ej | apply Ek | apply El | apply Em | apply En | apply Eo) | ((with_reducible apply Ep); · rfl))
        refine Run.any (nxt_MV (v := one) (ks := ks) (kk := .i64) rfl rfl rfl) ?_
        intro y hy
        obtain ⟨z, hz, rfl⟩ := List.mem_map.1 hy
        rcases cands_mem hz with ⟨rfl, _⟩ | ⟨j, k, hk, hns, rfl⟩
        · simp only [nxtOut]
          repeat (first
    | ((first | (with_reducible first | apply Aa | apply Ab | apply Ac | apply Ad | apply Ae | apply Af | apply Na | apply Nb) | ((with_reducible first | apply Ag | apply Ah | apply Nc); · (simp only [go_sem, reduceIte, Nat.reduceEqDiff]; (try with_reducible exact rfl)))); · (simp only [go_sem, Int.reduceBEq, Int.reduceBNe, Int.reduceLT, Int.reduceLE, Int.reduceAdd, Int.reduceSub, Int.reduceToNat, reduceIte, Nat.reduceEqDiff, Nat.reduceAdd, Nat.reduceMul, Nat.reduceLeDiff, Nat.reduceSub, reduceCtorEq]; (try simp (disch := omega) only [OM, mn_lo, mn_hi, mx_lo, mx_hi, if_yes, if_no, Option.map_some]); (try with_reducible exact rfl)))
    | ((with_reducible first | apply Ba | apply Bb | apply Bc | apply Bd | apply Be | apply Nd); · (simp only [go_sem, reduceIte, Nat.reduceEqDiff]; (try with_reducible exact rfl))) | ((with_reducible first | apply Ca | apply Cb | apply Cc | apply Cd | apply Ce | apply Ne); · (simp only [go_sem, reduceIte, Nat.reduceEqDiff]; (try with_reducible exact rfl)))
    | ((with_reducible first | apply Dg | apply Dh); (· decide +kernel); (· (simp only [inOrd, List.getElem?_cons_succ, List.getElem?_cons_zero]; exact rfl)))
    | ((with_reducible first | apply De | apply Df); (· decide +kernel); (· (simp only [inOrd, List.getElem?_cons_succ, List.getElem?_cons_zero]; exact rfl)))
    | (with_reducible first | apply Ea | apply Eb | apply Ec | apply Ed | apply Ee | apply Ef | apply Eg | apply Eh | apply Ei | apply Ej | apply Ek | apply El | apply Em | apply En | apply Eo) | ((with_reducible apply Ep); · rfl))
          (first | ((with_reducible apply RunP.call); (· (simp only [go_sem, reduceIte, Nat.reduceEqDiff]; (try with_reducible exact rfl))); (· (simp only [go_sem, reduceIte, Nat.reduceEqDiff]; (try with_reducible exact rfl)))) | ((with_reducible apply Run.call); (· (simp only [go_sem, reduceIte, Nat.reduceEqDiff]; (try with_reducible exact rfl))); (· (simp only [go_sem, reduceIte, Nat.reduceEqDiff]; (try with_reducible exact rfl)))) | ((with_reducible apply Run.callY); (· (simp only [go_sem, reduceIte, Nat.reduceEqDiff]; (try with_reducible exact rfl))); (· (simp only [go_sem, reduceIte, Nat.reduceEqDiff]; (try with_reducible exact rfl))); (· (simp only [go_sem, reduceIte, Nat.reduceEqDiff]; (try with_reducible exact rfl)))) | ((with_reducible apply RunP.callY); (· (simp only [go_sem, reduceIte, Nat.reduceEqDiff]; (try with_reducible exact rfl))); (· (simp only [go_sem, reduceIte, Nat.reduceEqDiff]; (try with_reducible exact rfl))); (· (simp only [go_sem, reduceIte, Nat.reduceEqDiff]; (try with_reducible exact rfl)))) | ((with_reducible apply Run.call0); (· (simp only [go_sem, reduceIte, Nat.reduceEqDiff]; (try with_reducible exact rfl))); (· (simp only [go_sem, reduceIte, Nat.reduceEqDiff]; (try with_reducible exact rfl)))))
          refine sound_use (roundP b hP.good.ok a) [1, 2, 3, 4, 5] rfl (by decide) (by simp [-List.map_map, embAt, nm, rn_rw, rn_ro, rn_map, rn_iter, rn_dead, renL, Val.ren, BB.pad]) (by simp [-List.map_map, wfAll, wn_rw, wn_ro, wn_map, wn_iter, wn_dead, wfL, Val.wf, BB.pad]) (by simp [-List.map_map, Val.wf, wfL, BB.pad]) (by simp [-List.map_map, Val.ren, renL, nm, BB.pad]) ?_
          rintro v C' ⟨rfl, o, ho, rfl⟩
          rw [ans_ren]
          simp only [merge, place, after, nm, MG, Val.ren, renL, rn_rw, rn_ro, rn_map, rn_iter, rn_dead, reduceIte, Nat.reduceLT, Nat.reduceAdd, Nat.reduceSub, Nat.lt_irrefl, Nat.zero_lt_one, Nat.zero_lt_succ, BB.pad, BB.hd_ren, BB.fl_ren, BB.o2_ren, BB.o3_ren, BB.o4_ren, one_ren, map_u16, cn_ren]
          rcases hP.round ha0 ho with ⟨rfl, hz⟩ | ⟨i, rfl, hi, _⟩
          · have hgt : decide ((ks.length : Int) > 0) = false := decide_f (by rw [hz]; simp)
            simp only [ans]
            repeat (first
    | ((first | (with_reducible first | apply Aa | apply Ab | apply Ac | apply Ad | apply Ae | apply Af | apply Na | apply Nb) | ((with_reducible first | apply Ag | apply Ah | apply Nc); · (simp only [go_sem, reduceIte, Nat.reduceEqDiff, lenOf, MV_len, hgt]; (try with_reducible exact rfl)))); · (simp only [go_sem, Int.reduceBEq, Int.reduceBNe, Int.reduceLT, Int.reduceLE, Int.reduceAdd, Int.reduceSub, Int.reduceToNat, reduceIte, Nat.reduceEqDiff, Nat.reduceAdd, Nat.reduceMul, Nat.reduceLeDiff, Nat.reduceSub, reduceCtorEq, lenOf, MV_len, hgt]; (try simp (disch := omega) only [OM, mn_lo, mn_hi, mx_lo, mx_hi, if_yes, if_no, Option.map_some, lenOf, MV_len, hgt]); (try with_reducible exact rfl)))
    | ((with_reducible first | apply Ba | apply Bb | apply Bc | apply Bd | apply Be | apply Nd); · (simp only [go_sem, reduceIte, Nat.reduceEqDiff, lenOf, MV_len, hgt]; (try with_reducible exact rfl))) | ((with_reducible first | apply Ca | apply Cb | apply Cc | apply Cd | apply Ce | apply Ne); · (simp only [go_sem, reduceIte, Nat.reduceEqDiff, lenOf, MV_len, hgt]; (try with_reducible exact rfl)))
    | ((with_reducible first | apply Dg | apply Dh); (· decide +kernel); (· (simp only [inOrd, List.getElem?_cons_succ, List.getElem?_cons_zero]; exact rfl)))
    | ((with_reducible first | apply De | apply Df); (· decide +kernel); (· (simp only [inOrd, List.getElem?_cons_succ, List.getElem?_cons_zero]; exact rfl)))
    | (with_reducible first | apply Ea | apply Eb | apply Ec | apply Ed | apply Ee | apply Ef | apply Eg | apply Eh | apply Ei | apply Ej | apply Ek | apply El | apply Em | apply En | apply Eo) | ((with_reducible apply Ep); · rfl))
            (first | ((with_reducible apply RunP.call); (· (simp only [go_sem, reduceIte, Nat.reduceEqDiff]; (try with_reducible exact rfl))); (· (simp only [go_sem, reduceIte, Nat.reduceEqDiff]; (try with_reducible exact rfl)))) | ((with_reducible apply Run.call); (· (simp only [go_sem, reduceIte, Nat.reduceEqDiff]; (try with_reducible exact rfl))); (· (simp only [go_sem, reduceIte, Nat.reduceEqDiff]; (try with_reducible exact rfl)))) | ((with_reducible apply Run.callY); (· (simp only [go_sem, reduceIte, Nat.reduceEqDiff]; (try with_reducible exact rfl))); (· (simp only [go_sem, reduceIte, Nat.reduceEqDiff]; (try with_reducible exact rfl))); (· (simp only [go_sem, reduceIte, Nat.reduceEqDiff]; (try with_reducible exact rfl)))) | ((with_reducible apply RunP.callY); (· (simp only [go_sem, reduceIte, Nat.reduceEqDiff]; (try with_reducible exact rfl))); (· (simp only [go_sem, reduceIte, Nat.reduceEqDiff]; (try with_reducible exact rfl))); (· (simp only [go_sem, reduceIte, Nat.reduceEqDiff]; (try with_reducible exact rfl)))) | ((with_reducible apply Run.call0); (· (simp only [go_sem, reduceIte, Nat.reduceEqDiff]; (try with_reducible exact rfl))); (· (simp only [go_sem, reduceIte, Nat.reduceEqDiff]; (try with_reducible exact rfl)))))
            refine (awake_sound _).mono ?_
            rintro v H' ⟨rfl, rfl⟩
            repeat (first
    | ((first | (with_reducible first | apply Aa | apply Ab | apply Ac | apply Ad | apply Ae | apply Af | apply Na | apply Nb) | ((with_reducible first | apply Ag | apply Ah | apply Nc); · (simp only [go_sem, reduceIte, Nat.reduceEqDiff]; (try with_reducible exact rfl)))); · (simp only [go_sem, Int.reduceBEq, Int.reduceBNe, Int.reduceLT, Int.reduceLE, Int.reduceAdd, Int.reduceSub, Int.reduceToNat, reduceIte, Nat.reduceEqDiff, Nat.reduceAdd, Nat.reduceMul, Nat.reduceLeDiff, Nat.reduceSub, reduceCtorEq]; (try simp (disch := omega) only [OM, mn_lo, mn_hi, mx_lo, mx_hi, if_yes, if_no, Option.map_some]); (try with_reducible exact rfl)))
    | ((with_reducible first | apply Ba | apply Bb | apply Bc | apply Bd | apply Be | apply Nd); · (simp only [go_sem, reduceIte, Nat.reduceEqDiff]; (try with_reducible exact rfl))) | ((with_reducible first | apply Ca | apply Cb | apply Cc | apply Cd | apply Ce | apply Ne); · (simp only [go_sem, reduceIte, Nat.reduceEqDiff]; (try with_reducible exact rfl)))
    | ((with_reducible first | apply Dg | apply Dh); (· decide +kernel); (· (simp only [inOrd, List.getElem?_cons_succ, List.getElem?_cons_zero]; exact rfl)))
    | ((with_reducible first | apply De | apply Df); (· decide +kernel); (· (simp only [inOrd, List.getElem?_cons_succ, List.getElem?_cons_zero]; exact rfl)))
    | (with_reducible first | apply Ea | apply Eb | apply Ec | apply Ed | apply Ee | apply Ef | apply Eg | apply Eh | apply Ei | apply Ej | apply Ek | apply El | apply Em | apply En | apply Eo) | ((with_reducible apply Ep); · rfl))
            rfl
          · have hgt : decide ((ks.length : Int) > 0) = true := decide_t (by have := List.length_pos_of_mem hi; omega)
            simp only [ans]
            repeat (first
    | ((first | (with_reducible first | apply Aa | apply Ab | apply Ac | apply Ad | apply Ae | apply Af | apply Na | apply Nb) | ((with_reducible first | apply Ag | apply Ah | apply Nc); · (simp only [go_sem, reduceIte, Nat.reduceEqDiff, lenOf, MV_len, hgt]; (try with_reducible exact rfl)))); · (simp only [go_sem, Int.reduceBEq, Int.reduceBNe, Int.reduceLT, Int.reduceLE, Int.reduceAdd, Int.reduceSub, Int.reduceToNat, reduceIte, Nat.reduceEqDiff, Nat.reduceAdd, Nat.reduceMul, Nat.reduceLeDiff, Nat.reduceSub, reduceCtorEq, lenOf, MV_len, hgt]; (try simp (disch := omega) only [OM, mn_lo, mn_hi, mx_lo, mx_hi, if_yes, if_no, Option.map_some, lenOf, MV_len, hgt]); (try with_reducible exact rfl)))
    | ((with_reducible first | apply Ba | apply Bb | apply Bc | apply Bd | apply Be | apply Nd); · (simp only [go_sem, reduceIte, Nat.reduceEqDiff, lenOf, MV_len, hgt]; (try with_reducible exact rfl))) | ((with_reducible first | apply Ca | apply Cb | apply Cc | apply Cd | apply Ce | apply Ne); · (simp only [go_sem, reduceIte, Nat.reduceEqDiff, lenOf, MV_len, hgt]; (try with_reducible exact rfl)))
    | ((with_reducible first | apply Dg | apply Dh); (· decide +kernel); (· (simp only [inOrd, List.getElem?_cons_succ, List.getElem?_cons_zero]; exact rfl)))
    | ((with_reducible first | apply De | apply Df); (· decide +kernel); (· (simp only [inOrd, List.getElem?_cons_succ, List.getElem?_cons_zero]; exact rfl)))
    | (with_reducible first | apply Ea | apply Eb | apply Ec | apply Ed | apply Ee | apply Ef | apply Eg | apply Eh | apply Ei | apply Ej | apply Ek | apply El | apply Em | apply En | apply Eo) | ((with_reducible apply Ep); · rfl))
            (first | ((with_reducible apply RunP.call); (· (simp only [go_sem, reduceIte, Nat.reduceEqDiff]; (try with_reducible exact rfl))); (· (simp only [go_sem, reduceIte, Nat.reduceEqDiff]; (try with_reducible exact rfl)))) | ((with_reducible apply Run.call); (· (simp only [go_sem, reduceIte, Nat.reduceEqDiff]; (try with_reducible exact rfl))); (· (simp only [go_sem, reduceIte, Nat.reduceEqDiff]; (try with_reducible exact rfl)))) | ((with_reducible apply Run.callY); (· (simp only [go_sem, reduceIte, Nat.reduceEqDiff]; (try with_reducible exact rfl))); (· (simp only [go_sem, reduceIte, Nat.reduceEqDiff]; (try with_reducible exact rfl))); (· (simp only [go_sem, reduceIte, Nat.reduceEqDiff]; (try with_reducible exact rfl)))) | ((with_reducible apply RunP.callY); (· (simp only [go_sem, reduceIte, Nat.reduceEqDiff]; (try with_reducible exact rfl))); (· (simp only [go_sem, reduceIte, Nat.reduceEqDiff]; (try with_reducible exact rfl))); (· (simp only [go_sem, reduceIte, Nat.reduceEqDiff]; (try with_reducible exact rfl)))) | ((with_reducible apply Run.call0); (· (simp only [go_sem, reduceIte, Nat.reduceEqDiff]; (try with_reducible exact rfl))); (· (simp only [go_sem, reduceIte, Nat.reduceEqDiff]; (try with_reducible exact rfl)))))
            refine (awake_sound _).mono ?_
            rintro v H' ⟨rfl, rfl⟩
            repeat (first
    | ((first | (with_reducible first | apply Aa | apply Ab | apply Ac | apply Ad | apply Ae | apply Af | apply Na | apply Nb) | ((with_reducible first | apply Ag | apply Ah | apply Nc); · (simp only [go_sem, reduceIte, Nat.reduceEqDiff]; (try with_reducible exact rfl)))); · (simp only [go_sem, Int.reduceBEq, Int.reduceBNe, Int.reduceLT, Int.reduceLE, Int.reduceAdd, Int.reduceSub, Int.reduceToNat, reduceIte, Nat.reduceEqDiff, Nat.reduceAdd, Nat.reduceMul, Nat.reduceLeDiff, Nat.reduceSub, reduceCtorEq]; (try simp (disch := omega) only [OM, mn_lo, mn_hi, mx_lo, mx_hi, if_yes, if_no, Option.map_some]); (try with_reducible exact rfl)))
    | ((with_reducible first | apply Ba | apply Bb | apply Bc | apply Bd | apply Be | apply Nd); · (simp only [go_sem, reduceIte, Nat.reduceEqDiff]; (try with_reducible exact rfl))) | ((with_reducible first | apply Ca | apply Cb | apply Cc | apply Cd | apply Ce | apply Ne); · (simp only [go_sem, reduceIte, Nat.reduceEqDiff]; (try with_reducible exact rfl)))
    | ((with_reducible first | apply Dg | apply Dh); (· decide +kernel); (· (simp only [inOrd, List.getElem?_cons_succ, List.getElem?_cons_zero]; exact rfl)))
    | ((with_reducible first | apply De | apply Df); (· decide +kernel); (· (simp only [inOrd, List.getElem?_cons_succ, List.getElem?_cons_zero]; exact rfl)))
    | (with_reducible first | apply Ea | apply Eb | apply Ec | apply Ed | apply Ee | apply Ef | apply Eg | apply Eh | apply Ei | apply Ej | apply Ek | apply El | apply Em | apply En | apply Eo) | ((with_reducible apply Ep); · rfl))
            rfl
        · have hkm := List.mem_of_getElem? hk
          have hjl : j < ks.length := (List.getElem?_eq_some_iff.1 hk).1
          have hun := unseen_lt hjl hns
          have h2 := hfin k hkm
          simp only [nxtOut, List.set_cons_succ, List.set_cons_zero]
          repeat (first
    | ((first | (with_reducible first | apply Aa | apply Ab | apply Ac | apply Ad | apply Ae | apply Af | apply Na | apply Nb) | ((with_reducible first | apply Ag | apply Ah | apply Nc); · (simp only [go_sem, reduceIte, Nat.reduceEqDiff]; (try with_reducible exact rfl)))); · (simp only [go_sem, Int.reduceBEq, Int.reduceBNe, Int.reduceLT, Int.reduceLE, Int.reduceAdd, Int.reduceSub, Int.reduceToNat, reduceIte, Nat.reduceEqDiff, Nat.reduceAdd, Nat.reduceMul, Nat.reduceLeDiff, Nat.reduceSub, reduceCtorEq]; (try simp (disch := omega) only [OM, mn_lo, mn_hi, mx_lo, mx_hi, if_yes, if_no, Option.map_some]); (try with_reducible exact rfl)))
    | ((with_reducible first | apply Ba | apply Bb | apply Bc | apply Bd | apply Be | apply Nd); · (simp only [go_sem, reduceIte, Nat.reduceEqDiff]; (try with_reducible exact rfl))) | ((with_reducible first | apply Ca | apply Cb | apply Cc | apply Cd | apply Ce | apply Ne); · (simp only [go_sem, reduceIte, Nat.reduceEqDiff]; (try with_reducible exact rfl)))
    | ((with_reducible first | apply Dg | apply Dh); (· decide +kernel); (· (simp only [inOrd, List.getElem?_cons_succ, List.getElem?_cons_zero]; exact rfl)))
    | ((with_reducible first | apply De | apply Df); (· decide +kernel); (· (simp only [inOrd, List.getElem?_cons_succ, List.getElem?_cons_zero]; exact rfl)))
    | (with_reducible first | apply Ea | apply Eb | apply Ec | apply Ed | apply Ee | apply Ef | apply Eg | apply Eh | apply Ei | apply Ej | apply Ek | apply El | apply Em | apply En | apply Eo) | ((with_reducible apply Ep); · rfl))
          refine Aa (ent_MV (v := one) (ks := ks) (kk := .i64) rfl rfl rfl hk) ?_
          repeat (first
    | ((first | (with_reducible first | apply Aa | apply Ab | apply Ac | apply Ad | apply Ae | apply Af | apply Na | apply Nb) | ((with_reducible first | apply Ag | apply Ah | apply Nc); · (simp only [go_sem, reduceIte, Nat.reduceEqDiff, findV_in (hmem k hkm), cnV_at, h2]; (try with_reducible exact rfl)))); · (simp only [go_sem, Int.reduceBEq, Int.reduceBNe, Int.reduceLT, Int.reduceLE, Int.reduceAdd, Int.reduceSub, Int.reduceToNat, reduceIte, Nat.reduceEqDiff, Nat.reduceAdd, Nat.reduceMul, Nat.reduceLeDiff, Nat.reduceSub, reduceCtorEq, findV_in (hmem k hkm), cnV_at, h2]; (try simp (disch := omega) only [OM, mn_lo, mn_hi, mx_lo, mx_hi, if_yes, if_no, Option.map_some, findV_in (hmem k hkm), cnV_at, h2]); (try with_reducible exact rfl)))
    | ((with_reducible first | apply Ba | apply Bb | apply Bc | apply Bd | apply Be | apply Nd); · (simp only [go_sem, reduceIte, Nat.reduceEqDiff, findV_in (hmem k hkm), cnV_at, h2]; (try with_reducible exact rfl))) | ((with_reducible first | apply Ca | apply Cb | apply Cc | apply Cd | apply Ce | apply Ne); · (simp only [go_sem, reduceIte, Nat.reduceEqDiff, findV_in (hmem k hkm), cnV_at, h2]; (try with_reducible exact rfl)))
    | ((with_reducible first | apply Dg | apply Dh); (· decide +kernel); (· (simp only [inOrd, List.getElem?_cons_succ, List.getElem?_cons_zero]; exact rfl)))
    | ((with_reducible first | apply De | apply Df); (· decide +kernel); (· (simp only [inOrd, List.getElem?_cons_succ, List.getElem?_cons_zero]; exact rfl)))
    | (with_reducible first | apply Ea | apply Eb | apply Ec | apply Ed | apply Ee | apply Ef | apply Eg | apply Eh | apply Ei | apply Ej | apply Ek | apply El | apply Em | apply En | apply Eo) | ((with_reducible apply Ep); · rfl))
          refine ⟨_, hun, _, rfl, ?_⟩
          refine anew [0, 1, 2, 3, 4, 5, 6, 7, 8] (by simp [nc0] <;> fail) (by decide) (by simp [-List.map_map, embAt, nm, rn_rw, rn_ro, rn_map, rn_iter, rn_dead, renL, Val.ren, nc0]) (by simp [-List.map_map, wfAll, wn_rw, wn_ro, wn_map, wn_iter, wn_dead, wfL, Val.wf, nc0]) (by simp [nc0]) rfl (by simp [-List.map_map, Val.wf, wfL, nc0]) (by simp [-List.map_map, Env.get, Val.ren, renL, nm, initEnv, nc0])
end Go.Proofs.YtphlceiachdneaaDoor.IR
