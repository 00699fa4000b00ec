/- This text of a proof shows: what the laws play upon a bitmap comes to: its marks, and a map of them. -/
import Derived.Test.YtphlceiachdneaaDoorK08
import Derived.Test.YtphlceiachdneaaDoorEvF
set_option linter.unusedVariables false
set_option linter.unusedSimpArgs false
set_option linter.constructorNameAsVariable false
namespace Go.Proofs.YtphlceiachdneaaDoor.IR
open Go Go.Proofs.YtphlceiachdneaaDoor.Ev
set_option linter.unusedSimpArgs false
set_option linter.unusedVariables false
set_option maxHeartbeats 4000000
attribute [local go_sem] skipV nc0 nc1 nc2 nc3 bne_self_eq_false decide_true decide_false IOp.step Opd.ev Env.get initEnv Val.cells? Val.one List.all_cons List.all_nil Bool.and_true Bool.and_self Bool.true_and bin ints eqv Val.kindNo lenNo_s lenNo_nils lenNo_sl lenNo_nilm lenNo_m lenOf_s lenOf_nils lenOf_sl lenOf_nilm unary partsOf padTo List.foldl_cons List.foldl_nil wr_nil wr_step wr_zero List.set_cons_zero List.set_cons_succ List.map_cons List.map_nil z1 z2 Nat.succ_ne_zero List.length_cons List.length_nil List.cons_append List.nil_append List.append_nil List.getElem?_cons_zero List.getElem?_cons_succ List.getElem?_nil Option.map_some Option.map_none Nat.zero_add Nat.add_zero List.drop_zero List.drop_succ_cons List.take_succ_cons List.take_zero List.take_nil and_self and_true true_and Nat.le_refl Bool.not_true Bool.not_false Option.getD_some window Val.slen bnd resV resL RV.val Bool.false_eq_true BEq.rfl Bool.true_beq Bool.false_beq beq_true beq_false mk_one ite_true ite_false eqc ceqs ceq NOp.step isK eq_self
attribute [local simp] Wd_ren Wd_wf map_i64 map_i64_wf BB.hd_ren BB.fl_ren BB.o2_ren BB.o3_ren BB.o4_ren BB.hd_wf BB.fl_wf BB.o2_wf BB.o3_wf BB.o4_wf
/-- What was played: n places, marks ks out of the numbers l. -/
structure PL (b : BB) (n : Nat) (ks l : List Int) : Prop where
  good : b.good n
  nodup : ks.Nodup
  marks : ∀ j : Nat, b.p j = true ↔ (j : Int) ∈ ks
  range : ∀ k ∈ ks, 0 ≤ k ∧ k < n
  of : ∀ k, k ∈ ks ↔ ∃ x ∈ l, x % n = k
  k : b.k = ks.length
def one : Int → Val := fun _ => .i .i64 1
theorem one_upd (k : Int) : updF one k (.i .i64 1) = one := by funext y; unfold updF one; split <;> rfl
theorem PL.new {n : Nat} (h1 : 1 ≤ n) (h2 : n ≤ 65536) : PL (BB.new n) n [] [] :=
  ⟨good_new h1 h2, List.nodup_nil, fun j => by simp [BB.new], by simp, by simp, rfl⟩
theorem PL.has {b : BB} {n : Nat} {ks l : List Int} (h : PL b n ks l) {k : Int} (h0 : 0 ≤ k) : b.has k = true ↔ k ∈ ks := by
  obtain ⟨j, rfl⟩ : ∃ j : Nat, k = j := ⟨k.toNat, by omega⟩
  rw [BB.has_p]; exact h.marks j
theorem PL.app1 {b : BB} {n : Nat} {ks l : List Int} (h : PL b n ks l) {x : Int} (hx : 0 ≤ x) (hh : b.has (x % n) = false) : PL (b.set (x % n).toNat) n (ks ++ [x % n]) (l ++ [x]) := by
  have hn0 := h.good.ok.n0
  rw [h.good.n] at hn0
  have h0 : 0 ≤ x % (n : Int) := Int.emod_nonneg _ (by omega)
  have h1 : x % (n : Int) < n := Int.emod_lt_of_pos _ (by omega)
  have hg := good_set h.good hh h0 (by rw [h.good.n]; exact h1)
  obtain ⟨k, hxk⟩ : ∃ k, x % (n : Int) = k := ⟨_, rfl⟩
  rw [hxk] at h0 h1 hg hh ⊢
  have hk : k ∉ ks := fun q => by rw [(h.has h0).2 q] at hh; exact Bool.noConfusion hh
  refine ⟨hg, ?_, fun j => ?_, ?_, fun z => ?_, ?_⟩
  · rw [List.nodup_append]
    exact ⟨h.nodup, by simp, fun a ha c hc => by simp at hc; subst hc; rintro rfl; exact hk ha⟩
  · show upd b.p k.toNat true j = true ↔ _
    unfold upd
    rw [List.mem_append, List.mem_singleton]
    split
    · rename_i e; simp; right; omega
    · rename_i e; rw [h.marks j]; exact ⟨.inl, fun q => q.resolve_right (by omega)⟩
  · intro z hz
    rw [List.mem_append, List.mem_singleton] at hz
    rcases hz with hz | rfl
    · exact h.range z hz
    · exact ⟨h0, h1⟩
  · rw [List.mem_append, List.mem_singleton, h.of z]
    constructor
    · rintro (⟨y, hy, e⟩ | rfl)
      · exact ⟨y, by simp [hy], e⟩
      · exact ⟨x, by simp, hxk⟩
    · rintro ⟨y, hy, e⟩
      rw [List.mem_append, List.mem_singleton] at hy
      rcases hy with hy | rfl
      · exact .inl ⟨y, hy, e⟩
      · exact .inr (by rw [← e, hxk])
  · show b.k + 1 = _
    rw [h.k]; simp
theorem PL.app0 {b : BB} {n : Nat} {ks l : List Int} (h : PL b n ks l) {x : Int} (hh : x % n ∈ ks) : PL b n ks (l ++ [x]) := by
  refine ⟨h.good, h.nodup, h.marks, h.range, fun z => ?_, h.k⟩
  rw [h.of z]
  constructor
  · rintro ⟨y, hy, e⟩; exact ⟨y, by simp [hy], e⟩
  · rintro ⟨y, hy, e⟩
    rw [List.mem_append, List.mem_singleton] at hy
    rcases hy with hy | rfl
    · exact ⟨y, hy, e⟩
    · exact (h.of z).1 (e ▸ hh)
def pH (l : List Int) (b : BB) (ks : List Int) : Heap := [.ro (l.map (.i .u16)), .rw (b.hd 2), .rw (b.fl 3 4 5), b.o2, b.o3, b.o4, .map (MV .i64 ks one) ks.length]
def PInv (n : Nat) (l : List Int) (sv : Val) (L c : Nat) (ρ : Env) (H : Heap) : Prop :=
  ∃ (i : Nat) (b : BB) (ks : List Int), c + i = L ∧ PL b n ks (l.take i) ∧ AnewS 1 (pH l b ks) [(7, .i .i64 n), (8, .p 1 0), (10, .m 6), (27, sv), (28, .i .i64 L), (29, .i .i64 i)] ρ H
theorem map_u16 (ι : Nat → Nat) (d : List Int) : renL ι (d.map (.i .u16)) = d.map (.i .u16) := by rw [renL_map]; simp [Val.ren]
theorem map_u16_wf (m : Nat) : ∀ (d : List Int), wfL m (d.map (.i .u16)) = true
  | [] => rfl
  | x :: d => by simp [wfL, Val.wf, map_u16_wf m d]
theorem one_ren (ι : Nat → Nat) (ks : List Int) : (MV .i64 ks one).map (fun x => (x.1, x.2.1.ren ι, x.2.2.ren ι)) = MV .i64 ks one := MV_ren .i64 one (fun _ => rfl) ks 0
theorem one_wf (m : Nat) (ks : List Int) : ((MV .i64 ks one).all fun x => x.2.1.wf m && x.2.2.wf m) = true := MV_wf .i64 one (fun _ => rfl) ks 0
attribute [local simp] map_u16 map_u16_wf one_ren one_wf
theorem played_c (a : Int) (l : List Int) (sv : Val) (wa : 0 ≤ a ∧ a ≤ 65535) (hl : ∀ x ∈ l, 0 ≤ x ∧ x ≤ 65535) (s1 : SlArg sv 0 l.length 1) (m1 : l.length ≤ maxLen) :
    SoundM Tryd.prog 1 9 [.i .u16 a, sv] [.ro (l.map (.i .u16))] (fun v H' => ∃ b ks, PL b (a.toNat + 1) ks (l.take 60) ∧ v = .tup [.p 1 0, .i .i64 (a.toNat + 1 : Nat), .m 6] ∧ H' = pH l b ks) := by
  obtain ⟨A, rfl⟩ : ∃ A : Nat, a = A := ⟨a.toNat, by omega⟩
  rw [Int.toNat_natCast]
  obtain ⟨n, hn⟩ : ∃ n, A + 1 = n := ⟨_, rfl⟩
  have hn' : (1 : Int) + (A : Int) = n := by omega
  rw [hn]
  have hn0 : 1 ≤ n := by omega
  have hn1 : n ≤ 65536 := by omega
  obtain ⟨L, hL⟩ : ∃ L, min l.length 60 = L := ⟨_, rfl⟩
  have hmn : ∀ k, mxs true (.i k l.length) [.i .i64 60] = some (.i k L) := by
    intro k
    by_cases h : l.length ≤ 60
    · rw [mn_lo (by omega)]; congr; omega
    · rw [mn_hi (by omega)]; congr 2; omega
  have hl1 : sv.lenNo = 2 := by rcases s1 with ⟨_, rfl⟩ | rfl <;> rfl
  have hl2 : ∀ H, lenOf sv H = some (.i .i64 l.length) := by rcases s1 with ⟨h, rfl⟩ | rfl <;> intro H <;> simp [lenOf, *]
  refine sound_told (sound_func Tryd.func9 c9 rfl (by simp) ?_)
  simp only [e9]
  repeat (first
    | ((first | (with_reducible first | apply Aa | apply Ab | apply Ac | apply Ad | apply Ae | apply Af | apply Na | apply Nb) | ((with_reducible first | apply Ag | apply Ah | apply Nc); · (simp only [go_sem, reduceIte, Nat.reduceEqDiff, hn']; (try with_reducible exact rfl)))); · (simp only [go_sem, Int.reduceBEq, Int.reduceBNe, Int.reduceLT, Int.reduceLE, Int.reduceAdd, Int.reduceSub, Int.reduceToNat, reduceIte, Nat.reduceEqDiff, Nat.reduceAdd, Nat.reduceMul, Nat.reduceLeDiff, Nat.reduceSub, reduceCtorEq, hn']; (try simp (disch := omega) only [OM, mn_lo, mn_hi, mx_lo, mx_hi, if_yes, if_no, Option.map_some, hn']); (try with_reducible exact rfl)))
    | ((with_reducible first | apply Ba | apply Bb | apply Bc | apply Bd | apply Be | apply Nd); · (simp only [go_sem, reduceIte, Nat.reduceEqDiff, hn']; (try with_reducible exact rfl))) | ((with_reducible first | apply Ca | apply Cb | apply Cc | apply Cd | apply Ce | apply Ne); · (simp only [go_sem, reduceIte, Nat.reduceEqDiff, hn']; (try with_reducible exact rfl)))
    | ((with_reducible first | apply Dg | apply Dh); (· decide +kernel); (· (simp only [inOrd, List.getElem?_cons_succ, List.getElem?_cons_zero]; exact rfl)))
    | ((with_reducible first | apply De | apply Df); (· decide +kernel); (· (simp only [inOrd, List.getElem?_cons_succ, List.getElem?_cons_zero]; exact rfl)))
    | (with_reducible first | apply Ea | apply Eb | apply Ec | apply Ed | apply Ee | apply Ef | apply Eg | apply Eh | apply Ei | apply Ej | apply Ek | apply El | apply Em | apply En | apply Eo) | ((with_reducible apply Ep); · rfl))
  (first | ((with_reducible apply RunP.call); (· (simp only [go_sem, reduceIte, Nat.reduceEqDiff]; (try with_reducible exact rfl))); (· (simp only [go_sem, reduceIte, Nat.reduceEqDiff]; (try with_reducible exact rfl)))) | ((with_reducible apply Run.call); (· (simp only [go_sem, reduceIte, Nat.reduceEqDiff]; (try with_reducible exact rfl))); (· (simp only [go_sem, reduceIte, Nat.reduceEqDiff]; (try with_reducible exact rfl)))) | ((with_reducible apply Run.callY); (· (simp only [go_sem, reduceIte, Nat.reduceEqDiff]; (try with_reducible exact rfl))); (· (simp only [go_sem, reduceIte, Nat.reduceEqDiff]; (try with_reducible exact rfl))); (· (simp only [go_sem, reduceIte, Nat.reduceEqDiff]; (try with_reducible exact rfl)))) | ((with_reducible apply RunP.callY); (· (simp only [go_sem, reduceIte, Nat.reduceEqDiff]; (try with_reducible exact rfl))); (· (simp only [go_sem, reduceIte, Nat.reduceEqDiff]; (try with_reducible exact rfl))); (· (simp only [go_sem, reduceIte, Nat.reduceEqDiff]; (try with_reducible exact rfl)))) | ((with_reducible apply Run.call0); (· (simp only [go_sem, reduceIte, Nat.reduceEqDiff]; (try with_reducible exact rfl))); (· (simp only [go_sem, reduceIte, Nat.reduceEqDiff]; (try with_reducible exact rfl)))))
  refine sound_use (newP n hn0 hn1) [] rfl (by decide) (by simp [-List.map_map, embAt, nm, rn_rw, rn_ro, rn_map, rn_iter, rn_dead, renL, Val.ren, List.length_nil]) (by simp [-List.map_map, wfAll, wn_rw, wn_ro, wn_map, wn_iter, wn_dead, wfL, Val.wf, List.length_nil]) (by simp [-List.map_map, Val.wf, wfL, List.length_nil]) (by simp [-List.map_map, Val.ren, renL, nm, List.length_nil]) ?_
  rintro v C' ⟨rfl, rfl⟩
  have hP := PL.new hn0 hn1
  generalize BB.new n = b at hP
  simp only [merge, place, after, nm, MG, Val.ren, renL, rn_rw, rn_ro, rn_map, rn_iter, rn_dead, reduceIte, Nat.reduceLT, Nat.reduceAdd, Nat.reduceSub, Nat.lt_irrefl, Nat.zero_lt_one, Nat.zero_lt_succ, BB.pad, BB.hd_ren, BB.fl_ren, BB.o2_ren, BB.o3_ren, BB.o4_ren]
  obtain ⟨sv', hsv, hs1', hren', hwf'⟩ : ∃ sv', (∀ e H (x y : Opd), e x = sv → e y = .i .i64 L → (IOp.slice 1 x none (some y)).step e H = some (sv', H)) ∧ (sv' = .nils ∧ L = 0 ∨ sv' = .sl 0 0 L 1) ∧ (∀ ι : Nat → Nat, ι 0 = 0 → sv'.ren ι = sv') ∧ (∀ k, 0 < k → sv'.wf k = true) := by
    rcases s1 with ⟨h0, rfl⟩ | rfl
    · refine ⟨.nils, fun e H x y hx hy => ?_, .inl ⟨rfl, by omega⟩, fun _ _ => rfl, fun _ _ => rfl⟩
      have : L = 0 := by omega
      subst this
      simp [IOp.step, hx, hy, bnd]
    · refine ⟨.sl 0 0 L 1, fun e H x y hx hy => ?_, .inr rfl, fun ι h => by simp [Val.ren, h], fun k h => by simp [Val.wf, h]⟩
      have : L ≤ l.length := by omega
      simp [IOp.step, hx, hy, bnd, this]
  have hl1' : sv'.lenNo = 2 := by rcases hs1' with ⟨rfl, _⟩ | rfl <;> rfl
  have hl2' : ∀ H, lenOf sv' H = some (.i .i64 L) := by rcases hs1' with ⟨rfl, h⟩ | rfl <;> intro H <;> simp [lenOf, *]
  repeat (first
    | ((first | (with_reducible first | apply Aa | apply Ab | apply Ac | apply Ad | apply Ae | apply Af | apply Na | apply Nb) | ((with_reducible first | apply Ag | apply Ah | apply Nc); · (simp only [go_sem, reduceIte, Nat.reduceEqDiff, hl1, hl2, hmn]; (try with_reducible exact rfl)))); · (simp only [go_sem, Int.reduceBEq, Int.reduceBNe, Int.reduceLT, Int.reduceLE, Int.reduceAdd, Int.reduceSub, Int.reduceToNat, reduceIte, Nat.reduceEqDiff, Nat.reduceAdd, Nat.reduceMul, Nat.reduceLeDiff, Nat.reduceSub, reduceCtorEq, hl1, hl2, hmn]; (try simp (disch := omega) only [OM, mn_lo, mn_hi, mx_lo, mx_hi, if_yes, if_no, Option.map_some, hl1, hl2, hmn]); (try with_reducible exact rfl)))
    | ((with_reducible first | apply Ba | apply Bb | apply Bc | apply Bd | apply Be | apply Nd); · (simp only [go_sem, reduceIte, Nat.reduceEqDiff, hl1, hl2, hmn]; (try with_reducible exact rfl))) | ((with_reducible first | apply Ca | apply Cb | apply Cc | apply Cd | apply Ce | apply Ne); · (simp only [go_sem, reduceIte, Nat.reduceEqDiff, hl1, hl2, hmn]; (try with_reducible exact rfl)))
    | ((with_reducible first | apply Dg | apply Dh); (· decide +kernel); (· (simp only [inOrd, List.getElem?_cons_succ, List.getElem?_cons_zero]; exact rfl)))
    | ((with_reducible first | apply De | apply Df); (· decide +kernel); (· (simp only [inOrd, List.getElem?_cons_succ, List.getElem?_cons_zero]; exact rfl)))
    | (with_reducible first | apply Ea | apply Eb | apply Ec | apply Ed | apply Ee | apply Ef | apply Eg | apply Eh | apply Ei | apply Ej | apply Ek | apply El | apply Em | apply En | apply Eo) | ((with_reducible apply Ep); · rfl))
  refine Aa (hsv _ _ _ _ rfl rfl) ?_
  repeat (first
    | ((first | (with_reducible first | apply Aa | apply Ab | apply Ac | apply Ad | apply Ae | apply Af | apply Na | apply Nb) | ((with_reducible first | apply Ag | apply Ah | apply Nc); · (simp only [go_sem, reduceIte, Nat.reduceEqDiff, hl1', hl2']; (try with_reducible exact rfl)))); · (simp only [go_sem, Int.reduceBEq, Int.reduceBNe, Int.reduceLT, Int.reduceLE, Int.reduceAdd, Int.reduceSub, Int.reduceToNat, reduceIte, Nat.reduceEqDiff, Nat.reduceAdd, Nat.reduceMul, Nat.reduceLeDiff, Nat.reduceSub, reduceCtorEq, hl1', hl2']; (try simp (disch := omega) only [OM, mn_lo, mn_hi, mx_lo, mx_hi, if_yes, if_no, Option.map_some, hl1', hl2']); (try with_reducible exact rfl)))
    | ((with_reducible first | apply Ba | apply Bb | apply Bc | apply Bd | apply Be | apply Nd); · (simp only [go_sem, reduceIte, Nat.reduceEqDiff, hl1', hl2']; (try with_reducible exact rfl))) | ((with_reducible first | apply Ca | apply Cb | apply Cc | apply Cd | apply Ce | apply Ne); · (simp only [go_sem, reduceIte, Nat.reduceEqDiff, hl1', hl2']; (try with_reducible exact rfl)))
    | ((with_reducible first | apply Dg | apply Dh); (· decide +kernel); (· (simp only [inOrd, List.getElem?_cons_succ, List.getElem?_cons_zero]; exact rfl)))
    | ((with_reducible first | apply De | apply Df); (· decide +kernel); (· (simp only [inOrd, List.getElem?_cons_succ, List.getElem?_cons_zero]; exact rfl)))
    | (with_reducible first | apply Ea | apply Eb | apply Ec | apply Ed | apply Ee | apply Ef | apply Eg | apply Eh | apply Ei | apply Ej | apply Ek | apply El | apply Em | apply En | apply Eo) | ((with_reducible apply Ep); · rfl))
  refine ei_loop (PInv n l sv' L) (n := L) ?_ ?_
  · refine ⟨0, b, [], rfl, hP, ?_⟩
    unfold pH
    refine anew [0, 1, 2, 3, 4, 5, 6] (by simp [hren', hwf', MV_nil] <;> fail) (by decide) (by simp [-List.map_map, embAt, nm, rn_rw, rn_ro, rn_map, rn_iter, rn_dead, renL, Val.ren, hren', hwf', MV_nil]) (by simp [-List.map_map, wfAll, wn_rw, wn_ro, wn_map, wn_iter, wn_dead, wfL, Val.wf, hren', hwf', MV_nil]) (by simp [hren', hwf', MV_nil]) rfl (by simp [-List.map_map, Val.wf, wfL, hren', hwf', MV_nil]) (by simp [-List.map_map, Env.get, Val.ren, renL, nm, initEnv, hren', hwf', MV_nil])
  · clear hP b
    rintro c ρ H ⟨i, b, ks, hi, hP, ha⟩
    refine ei_anewS ha ?_
    clear ha
    unfold pH
    by_cases c1 : i < L
    · have hd1 : decide ((i : Int) < L) = true := decide_t (by omega)
      obtain rfl : sv' = .sl 0 0 L 1 := by rcases hs1' with ⟨_, h⟩ | h; (· omega); exact h
      obtain ⟨x, hx⟩ : ∃ x, l[i]? = some x := ⟨_, List.getElem?_eq_getElem (by omega)⟩
      have hxr := hl x (List.mem_of_getElem? hx)
      have hx2 : (l.map (Val.i .u16))[i]? = some (.i .u16 x) := by rw [List.getElem?_map, hx]; rfl
      have htk : l.take (i + 1) = l.take i ++ [x] := by rw [List.take_add_one, hx]; rfl
      have hr0 : 0 ≤ x % (n : Int) := Int.emod_nonneg _ (by omega)
      have hr1 : x % (n : Int) < n := Int.emod_lt_of_pos _ (by omega)
      have hnz : ¬ (n : Int) = 0 := by omega
      repeat (first
    | ((first | (with_reducible first | apply Aa | apply Ab | apply Ac | apply Ad | apply Ae | apply Af | apply Na | apply Nb) | ((with_reducible first | apply Ag | apply Ah | apply Nc); · (simp only [go_sem, reduceIte, Nat.reduceEqDiff, hd1, Int.toNat_natCast, Nat.mul_one, hx2, hnz]; (try with_reducible exact rfl)))); · (simp only [go_sem, Int.reduceBEq, Int.reduceBNe, Int.reduceLT, Int.reduceLE, Int.reduceAdd, Int.reduceSub, Int.reduceToNat, reduceIte, Nat.reduceEqDiff, Nat.reduceAdd, Nat.reduceMul, Nat.reduceLeDiff, Nat.reduceSub, reduceCtorEq, hd1, Int.toNat_natCast, Nat.mul_one, hx2, hnz]; (try simp (disch := omega) only [OM, mn_lo, mn_hi, mx_lo, mx_hi, if_yes, if_no, Option.map_some, hd1, Int.toNat_natCast, Nat.mul_one, hx2, hnz]); (try with_reducible exact rfl)))
    | ((with_reducible first | apply Ba | apply Bb | apply Bc | apply Bd | apply Be | apply Nd); · (simp only [go_sem, reduceIte, Nat.reduceEqDiff, hd1, Int.toNat_natCast, Nat.mul_one, hx2, hnz]; (try with_reducible exact rfl))) | ((with_reducible first | apply Ca | apply Cb | apply Cc | apply Cd | apply Ce | apply Ne); · (simp only [go_sem, reduceIte, Nat.reduceEqDiff, hd1, Int.toNat_natCast, Nat.mul_one, hx2, hnz]; (try with_reducible exact rfl)))
    | ((with_reducible first | apply Dg | apply Dh); (· decide +kernel); (· (simp only [inOrd, List.getElem?_cons_succ, List.getElem?_cons_zero]; exact rfl)))
    | ((with_reducible first | apply De | apply Df); (· decide +kernel); (· (simp only [inOrd, List.getElem?_cons_succ, List.getElem?_cons_zero]; exact rfl)))
    | (with_reducible first | apply Ea | apply Eb | apply Ec | apply Ed | apply Ee | apply Ef | apply Eg | apply Eh | apply Ei | apply Ej | apply Ek | apply El | apply Em | apply En | apply Eo) | ((with_reducible apply Ep); · rfl))
      (first | ((with_reducible apply RunP.call); (· (simp only [go_sem, reduceIte, Nat.reduceEqDiff]; (try with_reducible exact rfl))); (· (simp only [go_sem, reduceIte, Nat.reduceEqDiff]; (try with_reducible exact rfl)))) | ((with_reducible apply Run.call); (· (simp only [go_sem, reduceIte, Nat.reduceEqDiff]; (try with_reducible exact rfl))); (· (simp only [go_sem, reduceIte, Nat.reduceEqDiff]; (try with_reducible exact rfl)))) | ((with_reducible apply Run.callY); (· (simp only [go_sem, reduceIte, Nat.reduceEqDiff]; (try with_reducible exact rfl))); (· (simp only [go_sem, reduceIte, Nat.reduceEqDiff]; (try with_reducible exact rfl))); (· (simp only [go_sem, reduceIte, Nat.reduceEqDiff]; (try with_reducible exact rfl)))) | ((with_reducible apply RunP.callY); (· (simp only [go_sem, reduceIte, Nat.reduceEqDiff]; (try with_reducible exact rfl))); (· (simp only [go_sem, reduceIte, Nat.reduceEqDiff]; (try with_reducible exact rfl))); (· (simp only [go_sem, reduceIte, Nat.reduceEqDiff]; (try with_reducible exact rfl)))) | ((with_reducible apply Run.call0); (· (simp only [go_sem, reduceIte, Nat.reduceEqDiff]; (try with_reducible exact rfl))); (· (simp only [go_sem, reduceIte, Nat.reduceEqDiff]; (try with_reducible exact rfl)))))
      refine sound_use (setP b hP.good.ok (x % (n : Int))) [1, 2, 3, 4, 5] rfl (by decide) (by simp [-List.map_map, embAt, nm, rn_rw, rn_ro, rn_map, rn_iter, rn_dead, renL, Val.ren, BB.pad]) (by simp [-List.map_map, wfAll, wn_rw, wn_ro, wn_map, wn_iter, wn_dead, wfL, Val.wf, BB.pad]) (by simp [-List.map_map, Val.wf, wfL, BB.pad]) (by simp [-List.map_map, Val.ren, renL, nm, BB.pad]) ?_
      rintro v C' ⟨b', e1, e2, e3, rfl, (⟨h1, _, _, rfl, rfl⟩ | ⟨h1, rfl, rfl⟩)⟩
      · simp only [merge, place, after, nm, MG, Val.ren, renL, rn_rw, rn_ro, rn_map, rn_iter, rn_dead, reduceIte, Nat.reduceLT, Nat.reduceAdd, Nat.reduceSub, Nat.lt_irrefl, Nat.zero_lt_one, Nat.zero_lt_succ, BB.pad, BB.hd_ren, BB.fl_ren, BB.o2_ren, BB.o3_ren, BB.o4_ren, one_ren, map_u16]
        have hP' := hP.app1 hxr.1 h1
        rw [← htk] at hP'
        have hk : x % (n : Int) ∉ ks := fun q => by rw [(hP.has hr0).2 q] at h1; exact Bool.noConfusion h1
        repeat (first
    | ((first | (with_reducible first | apply Aa | apply Ab | apply Ac | apply Ad | apply Ae | apply Af | apply Na | apply Nb) | ((with_reducible first | apply Ag | apply Ah | apply Nc); · (simp only [go_sem, reduceIte, Nat.reduceEqDiff, findV_out hk, MV_push _ hk, one_upd]; (try with_reducible exact rfl)))); · (simp only [go_sem, Int.reduceBEq, Int.reduceBNe, Int.reduceLT, Int.reduceLE, Int.reduceAdd, Int.reduceSub, Int.reduceToNat, reduceIte, Nat.reduceEqDiff, Nat.reduceAdd, Nat.reduceMul, Nat.reduceLeDiff, Nat.reduceSub, reduceCtorEq, findV_out hk, MV_push _ hk, one_upd]; (try simp (disch := omega) only [OM, mn_lo, mn_hi, mx_lo, mx_hi, if_yes, if_no, Option.map_some, findV_out hk, MV_push _ hk, one_upd]); (try with_reducible exact rfl)))
    | ((with_reducible first | apply Ba | apply Bb | apply Bc | apply Bd | apply Be | apply Nd); · (simp only [go_sem, reduceIte, Nat.reduceEqDiff, findV_out hk, MV_push _ hk, one_upd]; (try with_reducible exact rfl))) | ((with_reducible first | apply Ca | apply Cb | apply Cc | apply Cd | apply Ce | apply Ne); · (simp only [go_sem, reduceIte, Nat.reduceEqDiff, findV_out hk, MV_push _ hk, one_upd]; (try with_reducible exact rfl)))
    | ((with_reducible first | apply Dg | apply Dh); (· decide +kernel); (· (simp only [inOrd, List.getElem?_cons_succ, List.getElem?_cons_zero]; exact rfl)))
    | ((with_reducible first | apply De | apply Df); (· decide +kernel); (· (simp only [inOrd, List.getElem?_cons_succ, List.getElem?_cons_zero]; exact rfl)))
    | (with_reducible first | apply Ea | apply Eb | apply Ec | apply Ed | apply Ee | apply Ef | apply Eg | apply Eh | apply Ei | apply Ej | apply Ek | apply El | apply Em | apply En | apply Eo) | ((with_reducible apply Ep); · rfl))
        refine ⟨c - 1, by omega, i + 1, _, _, by omega, hP', ?_⟩
        unfold pH
        refine anew [0, 1, 2, 3, 4, 5, 6] (by simp [nc0] <;> fail) (by decide) (by simp [-List.map_map, embAt, nm, rn_rw, rn_ro, rn_map, rn_iter, rn_dead, renL, Val.ren, nc0]) (by simp [-List.map_map, wfAll, wn_rw, wn_ro, wn_map, wn_iter, wn_dead, wfL, Val.wf, nc0]) (by simp [nc0]) rfl (by simp [-List.map_map, Val.wf, wfL, nc0]) (by simp [-List.map_map, Env.get, Val.ren, renL, nm, initEnv, nc0])
      · have hk : x % (n : Int) ∈ ks := by
          rcases h1 with h1 | h1
          · exact (hP.has hr0).1 h1
          · exact absurd ⟨hr0, by rw [hP.good.n]; exact hr1⟩ h1
        simp only [merge, place, after, nm, MG, Val.ren, renL, rn_rw, rn_ro, rn_map, rn_iter, rn_dead, reduceIte, Nat.reduceLT, Nat.reduceAdd, Nat.reduceSub, Nat.lt_irrefl, Nat.zero_lt_one, Nat.zero_lt_succ, BB.pad, BB.hd_ren, BB.fl_ren, BB.o2_ren, BB.o3_ren, BB.o4_ren, one_ren, map_u16]
        have hP' := hP.app0 hk
        rw [← htk] at hP'
        repeat (first
    | ((first | (with_reducible first | apply Aa | apply Ab | apply Ac | apply Ad | apply Ae | apply Af | apply Na | apply Nb) | ((with_reducible first | apply Ag | apply Ah | apply Nc); · (simp only [go_sem, reduceIte, Nat.reduceEqDiff, findV_in hk, born_in hk, MV_set _ hP.nodup hk, one_upd]; (try with_reducible exact rfl)))); · (simp only [go_sem, Int.reduceBEq, Int.reduceBNe, Int.reduceLT, Int.reduceLE, Int.reduceAdd, Int.reduceSub, Int.reduceToNat, reduceIte, Nat.reduceEqDiff, Nat.reduceAdd, Nat.reduceMul, Nat.reduceLeDiff, Nat.reduceSub, reduceCtorEq, findV_in hk, born_in hk, MV_set _ hP.nodup hk, one_upd]; (try simp (disch := omega) only [OM, mn_lo, mn_hi, mx_lo, mx_hi, if_yes, if_no, Option.map_some, findV_in hk, born_in hk, MV_set _ hP.nodup hk, one_upd]); (try with_reducible exact rfl)))
    | ((with_reducible first | apply Ba | apply Bb | apply Bc | apply Bd | apply Be | apply Nd); · (simp only [go_sem, reduceIte, Nat.reduceEqDiff, findV_in hk, born_in hk, MV_set _ hP.nodup hk, one_upd]; (try with_reducible exact rfl))) | ((with_reducible first | apply Ca | apply Cb | apply Cc | apply Cd | apply Ce | apply Ne); · (simp only [go_sem, reduceIte, Nat.reduceEqDiff, findV_in hk, born_in hk, MV_set _ hP.nodup hk, one_upd]; (try with_reducible exact rfl)))
    | ((with_reducible first | apply Dg | apply Dh); (· decide +kernel); (· (simp only [inOrd, List.getElem?_cons_succ, List.getElem?_cons_zero]; exact rfl)))
    | ((with_reducible first | apply De | apply Df); (· decide +kernel); (· (simp only [inOrd, List.getElem?_cons_succ, List.getElem?_cons_zero]; exact rfl)))
    | (with_reducible first | apply Ea | apply Eb | apply Ec | apply Ed | apply Ee | apply Ef | apply Eg | apply Eh | apply Ei | apply Ej | apply Ek | apply El | apply Em | apply En | apply Eo) | ((with_reducible apply Ep); · rfl))
        refine ⟨c - 1, by omega, i + 1, _, _, by omega, hP', ?_⟩
        unfold pH
        refine anew [0, 1, 2, 3, 4, 5, 6] (by simp [nc0] <;> fail) (by decide) (by simp [-List.map_map, embAt, nm, rn_rw, rn_ro, rn_map, rn_iter, rn_dead, renL, Val.ren, nc0]) (by simp [-List.map_map, wfAll, wn_rw, wn_ro, wn_map, wn_iter, wn_dead, wfL, Val.wf, nc0]) (by simp [nc0]) rfl (by simp [-List.map_map, Val.wf, wfL, nc0]) (by simp [-List.map_map, Env.get, Val.ren, renL, nm, initEnv, nc0])
    · have hd1 : decide ((i : Int) < L) = false := decide_f (by omega)
      repeat (first
    | ((first | (with_reducible first | apply Aa | apply Ab | apply Ac | apply Ad | apply Ae | apply Af | apply Na | apply Nb) | ((with_reducible first | apply Ag | apply Ah | apply Nc); · (simp only [go_sem, reduceIte, Nat.reduceEqDiff, hd1]; (try with_reducible exact rfl)))); · (simp only [go_sem, Int.reduceBEq, Int.reduceBNe, Int.reduceLT, Int.reduceLE, Int.reduceAdd, Int.reduceSub, Int.reduceToNat, reduceIte, Nat.reduceEqDiff, Nat.reduceAdd, Nat.reduceMul, Nat.reduceLeDiff, Nat.reduceSub, reduceCtorEq, hd1]; (try simp (disch := omega) only [OM, mn_lo, mn_hi, mx_lo, mx_hi, if_yes, if_no, Option.map_some, hd1]); (try with_reducible exact rfl)))
    | ((with_reducible first | apply Ba | apply Bb | apply Bc | apply Bd | apply Be | apply Nd); · (simp only [go_sem, reduceIte, Nat.reduceEqDiff, hd1]; (try with_reducible exact rfl))) | ((with_reducible first | apply Ca | apply Cb | apply Cc | apply Cd | apply Ce | apply Ne); · (simp only [go_sem, reduceIte, Nat.reduceEqDiff, hd1]; (try with_reducible exact rfl)))
    | ((with_reducible first | apply Dg | apply Dh); (· decide +kernel); (· (simp only [inOrd, List.getElem?_cons_succ, List.getElem?_cons_zero]; exact rfl)))
    | ((with_reducible first | apply De | apply Df); (· decide +kernel); (· (simp only [inOrd, List.getElem?_cons_succ, List.getElem?_cons_zero]; exact rfl)))
    | (with_reducible first | apply Ea | apply Eb | apply Ec | apply Ed | apply Ee | apply Ef | apply Eg | apply Eh | apply Ei | apply Ej | apply Ek | apply El | apply Em | apply En | apply Eo) | ((with_reducible apply Ep); · rfl))
      have hiL : l.take i = l.take 60 := by
        by_cases h : l.length ≤ 60
        · rw [List.take_of_length_le (by omega), List.take_of_length_le h]
        · rw [show i = 60 by omega]
      refine told [0, 1, 2, 3, 4, 5, 6] (pH l b ks) (.tup [.p 1 0, .i .i64 n, .m 6]) (by simp [pH] <;> fail) (by decide) (by simp [-List.map_map, embAt, nm, rn_rw, rn_ro, rn_map, rn_iter, rn_dead, renL, Val.ren, pH]) (by simp [-List.map_map, wfAll, wn_rw, wn_ro, wn_map, wn_iter, wn_dead, wfL, Val.wf, pH]) (by simp [pH]) rfl (by simp [-List.map_map, Val.wf, wfL, pH]) (by simp [-List.map_map, Val.ren, renL, nm, pH]) ?_
      exact ⟨b, ks, hiL ▸ hP, rfl, rfl⟩
end Go.Proofs.YtphlceiachdneaaDoor.IR
