/- This text of a proof shows: what a bitmap's place and Has come to; what a bitmap's Has comes to; what a bitmap's Set comes to; what a bitmap's Clear comes to; what a bitmap's way down comes to. -/
import Derived.Test.YtmdilnelogechaaDoorGg
import Derived.Test.YtmdilnelogechaaDoorR09
import Derived.Test.YtmdilnelogechaaDoorZ09
import Derived.Test.YtmdilnelogechaaDoorM08n
import Derived.Test.YtmdilnelogechaaDoorEvF
set_option linter.unusedVariables false
set_option linter.unusedSimpArgs false
set_option linter.constructorNameAsVariable false
namespace Go.Proofs.YtmdilnelogechaaDoor.Ev
/-- A loop that ends within k rounds, round by round. -/
def Unr (P : Program) (N m : Nat) (b : ICode) (Q : Exit → Env → Heap → Prop) : Nat → Env → Heap → Prop
  | 0, _, _ => False
  | k + 1, ρ, H => EvI P N m b ρ H (thenQ (Unr P N m b Q k) Q)
theorem ei_unroll (k : Nat) {P : Program} {N m : Nat} {b : ICode} {Q : Exit → Env → Heap → Prop} {ρ : Env} {H : Heap} (h : Unr P N m b Q k ρ H) : EvI P N m (.loop b) ρ H Q := by
  refine ei_loop (Unr P N m b Q) h ?_
  intro n ρ H hn
  cases n with
  | zero => exact hn.elim
  | succ n => exact EvI.mono hn (fun e ρ' H' q => by cases e <;> first | exact ⟨n, Nat.lt_succ_self n, q⟩ | exact q)
theorem unr {P : Program} {N m : Nat} {b : ICode} {Q : Exit → Env → Heap → Prop} {k : Nat} {ρ : Env} {H : Heap} (h : EvI P N m b ρ H (thenQ (Unr P N m b Q k) Q)) : Unr P N m b Q (k + 1) ρ H := h
end Go.Proofs.YtmdilnelogechaaDoor.Ev
namespace Go.Proofs.YtmdilnelogechaaDoor.IR
open Go Go.Proofs.YtmdilnelogechaaDoor.Ev
set_option linter.unusedSimpArgs false
set_option linter.unusedVariables false
set_option maxHeartbeats 4000000
attribute [local go_sem] skipV nc0 nc1 nc2 nc3 bne_self_eq_false decide_true decide_false IOp.step Opd.ev Env.get initEnv Val.cells? Val.one List.all_cons List.all_nil Bool.and_true Bool.and_self Bool.true_and bin ints eqv Val.kindNo lenNo_s lenNo_nils lenNo_sl lenNo_nilm lenNo_m lenOf_s lenOf_nils lenOf_sl lenOf_nilm unary mxs mx2 partsOf padTo List.foldl_cons List.foldl_nil wr_nil wr_step wr_zero List.set_cons_zero List.set_cons_succ List.map_cons List.map_nil z1 z2 Nat.succ_ne_zero List.length_cons List.length_nil List.cons_append List.nil_append List.append_nil List.getElem?_cons_zero List.getElem?_cons_succ List.getElem?_nil Option.map_some Option.map_none Nat.zero_add Nat.add_zero List.drop_zero List.drop_succ_cons List.take_succ_cons List.take_zero List.take_nil and_self and_true true_and Nat.le_refl Bool.not_true Bool.not_false Option.getD_some window Val.slen bnd resV resL RV.val Bool.false_eq_true BEq.rfl Bool.true_beq Bool.false_beq beq_true beq_false mk_one ite_true ite_false eqc ceqs ceq
def Wd (p : Nat → Bool) (L : Nat) : List Val := (List.range L).map fun j => .i .u64 ((word p j : Nat) : Int)
theorem Wd_get (p : Nat → Bool) (L j : Nat) (h : j < L) : (Wd p L)[j]? = some (.i .u64 ((word p j : Nat) : Int)) := by
  unfold Wd; rw [List.getElem?_map, List.getElem?_range h]; rfl
theorem Wd_len (p : Nat → Bool) (L : Nat) : (Wd p L).length = L := by unfold Wd; rw [List.length_map, List.length_range]
theorem Wd_ren (ι : Nat → Nat) (p : Nat → Bool) (L : Nat) : renL ι (Wd p L) = Wd p L := by unfold Wd; rw [renL_map]; simp [Val.ren]
theorem Wd_wf (m : Nat) (p : Nat → Bool) (L : Nat) : wfL m (Wd p L) = true := by
  unfold Wd
  generalize List.range L = l
  induction l with
  | nil => rfl
  | cons x l ih => simp [wfL, Val.wf, ih]
theorem Wd_wr (p : Nat → Bool) (i : Nat) (v : Bool) (L : Nat) : wr (Wd p L) (i / 64) [.i .u64 ((word (upd p i v) (i / 64) : Nat) : Int)] = Wd (upd p i v) L := by
  show (Wd p L).set (i / 64) _ = _
  apply List.ext_getElem?
  intro j
  rw [List.getElem?_set]
  by_cases h : i / 64 = j
  · rw [if_pos h]
    by_cases hL : i / 64 < (Wd p L).length
    · rw [if_pos hL, ← h, Wd_get _ _ _ (by rwa [Wd_len] at hL)]
    · rw [if_neg hL, List.getElem?_eq_none (by rw [Wd_len] at *; omega)]
  · rw [if_neg h]
    by_cases hL : j < L
    · rw [Wd_get _ _ _ hL, Wd_get _ _ _ hL, word_other p i j v (fun e => h e.symm)]
    · rw [List.getElem?_eq_none (by rw [Wd_len]; omega), List.getElem?_eq_none (by rw [Wd_len]; omega)]
theorem pw (j : Nat) : (2 : Int) ^ min (j % 64) 64 = ((2 ^ (j % 64) : Nat) : Int) := by
  rw [show min (j % 64) 64 = j % 64 by omega]; push_cast; rfl
theorem bin_shr6 (j : Nat) : bin .shr (.i .i64 j) (.i .u64 6) = some (.i .i64 ((j / 64 : Nat) : Int)) := by
  show some (Val.i .i64 ((j : Int).fdiv 64)) = _
  rw [Int.fdiv_eq_ediv_of_nonneg _ (by decide)]
  exact congrArg (fun x => some (Val.i .i64 x)) (by omega)
theorem bin_rem (j : Nat) : bin .rem (.i .i64 j) (.i .i64 64) = some (.i .i64 ((j % 64 : Nat) : Int)) := by
  show some (Val.i .i64 ((j : Int).tmod 64)) = _
  rw [Int.tmod_eq_emod_of_nonneg (by omega)]
  exact congrArg (fun x => some (Val.i .i64 x)) (by omega)
theorem bin_shrw (w j : Nat) : bin .shr (.i .u64 w) (.i .i64 ((j % 64 : Nat) : Int)) = some (.i .u64 ((w / 2 ^ (j % 64) : Nat) : Int)) := by
  show (if ((j % 64 : Nat) : Int) < 0 then none else some (Val.i .u64 ((w : Int).fdiv (2 ^ min (((j % 64 : Nat) : Int)).toNat 64)))) = _
  rw [if_neg (by omega), Int.toNat_natCast, pw, Int.fdiv_eq_ediv_of_nonneg _ (Int.natCast_nonneg _), Int.natCast_ediv]
theorem bin_shl1 (j : Nat) : bin .shl (.i .u64 1) (.i .i64 ((j % 64 : Nat) : Int)) = some (.i .u64 ((2 ^ (j % 64) : Nat) : Int)) := by
  show (if ((j % 64 : Nat) : Int) < 0 then none else some (Val.i .u64 (IntKind.u64.wrap (1 * 2 ^ min (((j % 64 : Nat) : Int)).toNat 64)))) = _
  rw [if_neg (by omega), Int.toNat_natCast, pw, Int.one_mul, wrap_u64n]
  exact Nat.lt_of_lt_of_le (Nat.pow_lt_pow_right (by decide) (by omega : j % 64 < 64)) (by decide)
def bitN (b : Bool) : Int := if b = true then 1 else 0
theorem bitN_eq (b : Bool) : (bitN b == 1) = b := by cases b <;> rfl
theorem bin_and1 (p : Nat → Bool) (i : Nat) : bin .and (.i .u64 ((word p (i / 64) / 2 ^ (i % 64) : Nat) : Int)) (.i .u64 1) = some (.i .u64 (bitN (p i))) := by
  have h := and1_word p i
  show some (Val.i .u64 _) = _
  refine congrArg (fun x => some (Val.i .u64 x)) ?_
  generalize hz : IntKind.u64.wrap _ = z at h ⊢
  rw [← h]
  have : z = 0 ∨ z = 1 := by
    rw [← hz]
    show IntKind.u64.wrap ((BitVec.ofInt 64 _ &&& BitVec.ofInt 64 ((1 : Nat) : Int)).toNat : Int) = 0 ∨ IntKind.u64.wrap ((BitVec.ofInt 64 _ &&& BitVec.ofInt 64 ((1 : Nat) : Int)).toNat : Int) = 1
    rw [BitVec.toNat_and, ofInt_nat _ (shift_lt p _), ofInt_nat 1 (by decide), Nat.and_one_is_mod, wrap_u64n _ (by omega)]
    omega
  rcases this with rfl | rfl <;> rfl
theorem bin_or (p : Nat → Bool) (i : Nat) : bin .or (.i .u64 ((word p (i / 64) : Nat) : Int)) (.i .u64 ((2 ^ (i % 64) : Nat) : Int)) = some (.i .u64 ((word (upd p i true) (i / 64) : Nat) : Int)) :=
  congrArg (fun x => some (Val.i .u64 x)) (or_word p i)
theorem bin_andNot (p : Nat → Bool) (i : Nat) : bin .andNot (.i .u64 ((word p (i / 64) : Nat) : Int)) (.i .u64 ((2 ^ (i % 64) : Nat) : Int)) = some (.i .u64 ((word (upd p i false) (i / 64) : Nat) : Int)) :=
  congrArg (fun x => some (Val.i .u64 x)) (andNot_word p i)
theorem bin_add (k : IntKind) (a c : Int) : bin .add (.i k a) (.i k c) = some (.i k (k.wrap (a + c))) := by simp [bin, ints]
theorem bin_quo (a : Int) : bin .quo (.i .i64 a) (.i .i64 64) = some (.i .i64 (IntKind.i64.wrap (a.tdiv 64))) := by simp [bin, ints]
theorem bin_mul (k : IntKind) (a c : Int) : bin .mul (.i k a) (.i k c) = some (.i k (k.wrap (a * c))) := by simp [bin, ints]
theorem bin_sub (k : IntKind) (a c : Int) : bin .sub (.i k a) (.i k c) = some (.i k (k.wrap (a - c))) := by simp [bin, ints]
theorem bin_lss (k : IntKind) (a c : Int) : bin .lss (.i k a) (.i k c) = some (.b (a < c)) := by simp [bin, ints]
theorem bin_leq (k : IntKind) (a c : Int) : bin .leq (.i k a) (.i k c) = some (.b (a ≤ c)) := by simp [bin, ints]
theorem bin_gtr (k : IntKind) (a c : Int) : bin .gtr (.i k a) (.i k c) = some (.b (a > c)) := by simp [bin, ints]
theorem bin_geq (k : IntKind) (a c : Int) : bin .geq (.i k a) (.i k c) = some (.b (a ≥ c)) := by simp [bin, ints]
theorem bin_eql (k : IntKind) (a c : Int) : bin .eql (.i k a) (.i k c) = some (.b (a == c)) := by simp [bin, ints]
theorem bin_neq (k : IntKind) (a c : Int) : bin .neq (.i k a) (.i k c) = some (.b (a != c)) := by simp [bin, ints]
theorem bin_shl6 (a : Nat) : bin .shl (.i .i64 a) (.i .u64 6) = some (.i .i64 (IntKind.i64.wrap ((64 * a : Nat) : Int))) := by
  show some (Val.i .i64 (IntKind.i64.wrap ((a : Int) * 64))) = _
  exact congrArg (fun x => some (Val.i .i64 (IntKind.i64.wrap x))) (by omega)
theorem addn (a c : Nat) : (a : Int) + (c : Int) = ((a + c : Nat) : Int) := rfl
theorem ctz_le (x : Nat) (h : x < 18446744073709551616) : Lib.ctz 64 x ≤ 64 := by
  by_cases h0 : x = 0
  · subst h0; decide
  · have := (ctz_spec h0 h).1; omega
/-- A bitmap: places, marks, how many, the lengths of the lowest floor and of the one above it. -/
structure BB where
  n : Nat
  p : Nat → Bool
  k : Int
  L : Nat
  M : Nat
structure BB.ok (b : BB) : Prop where
  n0 : 1 ≤ b.n
  n1 : b.n ≤ 65536
  below : Below b.p b.n
  L : b.L = (b.n + 63) / 64
  M : b.M = (b.L + 63) / 64
  k0 : 0 ≤ b.k
  k1 : b.k ≤ 65536
def BB.heap (b : BB) : Heap :=
  if b.n ≤ 64 then [.rw [.sl 1 0 1 1, .i .i64 b.n, .i .i64 b.k], .rw [.sl 2 0 1 1], .rw (Wd b.p 1)]
  else if b.n ≤ 4096 then [.rw [.sl 1 0 2 1, .i .i64 b.n, .i .i64 b.k], .rw [.sl 2 0 b.L 1, .sl 3 0 1 1], .rw (Wd b.p b.L), .rw (Wd (up b.p) 1)]
  else [.rw [.sl 1 0 3 1, .i .i64 b.n, .i .i64 b.k], .rw [.sl 2 0 b.L 1, .sl 3 0 b.M 1, .sl 4 0 1 1], .rw (Wd b.p b.L), .rw (Wd (up b.p) b.M), .rw (Wd (up (up b.p)) 1)]
def BB.m (b : BB) : Nat := if b.n ≤ 64 then 3 else if b.n ≤ 4096 then 4 else 5
def BB.has (b : BB) (i : Int) : Bool := decide (0 ≤ i) && b.p i.toNat
theorem BB.shape (b : BB) : ((b.n ≤ 64) = True ∧ True) ∨ ((b.n ≤ 64) = False ∧ (b.n ≤ 4096) = True) ∨ ((b.n ≤ 64) = False ∧ (b.n ≤ 4096) = False) := by
  by_cases h : b.n ≤ 64
  · exact .inl ⟨by simpa using h, trivial⟩
  · by_cases h2 : b.n ≤ 4096
    · exact .inr (.inl ⟨by simpa using h, by simpa using h2⟩)
    · exact .inr (.inr ⟨by simpa using h, by simpa using h2⟩)
theorem place_c (b : BB) (i : Int) : SoundM Tryd.prog b.m 60 [.p 0 0, .i .i64 i] b.heap (fun v H' => v = .b (decide (0 ≤ i) && decide (i < b.n)) ∧ H' = b.heap) := by
  rcases b.shape with ⟨h, h'⟩ | ⟨h, h'⟩ | ⟨h, h'⟩
  all_goals
    conv => arg 2; simp only [BB.m, h, h', if_true, if_false]
    refine sound_told (sound_func Tryd.func60 c60 rfl (by simp [BB.heap, h, h']) ?_)
    simp only [e60, s60]
    rw [show b.heap = BB.heap b from rfl]
    conv => arg 6; simp only [BB.heap, h, h', if_true, if_false]
    by_cases h1 : i ≥ 0
    · rw [decide_t (p := 0 ≤ i) h1]
      (have g0 := decide_t h1; refine GG1 ?_; clear g0)
      (first | (have _s : _ ≤ 64 := of_eq_true h; refine told [0, 1, 2] b.heap (.b (true && decide (i < b.n))) (by simp [Wd_ren, Wd_wf, BB.heap, h, h'] <;> fail) (by decide) (by simp [-List.map_map, embAt, nm, AObj.ren, renL, Val.ren, Wd_ren, Wd_wf, BB.heap, h, h']) (by simp [-List.map_map, wfAll, AObj.wf, wfL, Val.wf, Wd_ren, Wd_wf, BB.heap, h, h']) (by simp [Wd_ren, Wd_wf, BB.heap, h, h']) rfl (by simp [-List.map_map, Val.wf, wfL, Wd_ren, Wd_wf, BB.heap, h, h']) (by simp [-List.map_map, Val.ren, renL, nm, Wd_ren, Wd_wf, BB.heap, h, h']) ?_) | (have _s : _ ≤ 4096 := of_eq_true h'; refine told [0, 1, 2, 3] b.heap (.b (true && decide (i < b.n))) (by simp [Wd_ren, Wd_wf, BB.heap, h, h'] <;> fail) (by decide) (by simp [-List.map_map, embAt, nm, AObj.ren, renL, Val.ren, Wd_ren, Wd_wf, BB.heap, h, h']) (by simp [-List.map_map, wfAll, AObj.wf, wfL, Val.wf, Wd_ren, Wd_wf, BB.heap, h, h']) (by simp [Wd_ren, Wd_wf, BB.heap, h, h']) rfl (by simp [-List.map_map, Val.wf, wfL, Wd_ren, Wd_wf, BB.heap, h, h']) (by simp [-List.map_map, Val.ren, renL, nm, Wd_ren, Wd_wf, BB.heap, h, h']) ?_) | (refine told [0, 1, 2, 3, 4] b.heap (.b (true && decide (i < b.n))) (by simp [Wd_ren, Wd_wf, BB.heap, h, h'] <;> fail) (by decide) (by simp [-List.map_map, embAt, nm, AObj.ren, renL, Val.ren, Wd_ren, Wd_wf, BB.heap, h, h']) (by simp [-List.map_map, wfAll, AObj.wf, wfL, Val.wf, Wd_ren, Wd_wf, BB.heap, h, h']) (by simp [Wd_ren, Wd_wf, BB.heap, h, h']) rfl (by simp [-List.map_map, Val.wf, wfL, Wd_ren, Wd_wf, BB.heap, h, h']) (by simp [-List.map_map, Val.ren, renL, nm, Wd_ren, Wd_wf, BB.heap, h, h']) ?_))
      exact ⟨rfl, rfl⟩
    · rw [decide_f (p := 0 ≤ i) h1]
      (have g0 := decide_f h1; refine GG1 ?_; clear g0)
      (first | (have _s : _ ≤ 64 := of_eq_true h; refine told [0, 1, 2] b.heap (.b false) (by simp [Wd_ren, Wd_wf, BB.heap, h, h'] <;> fail) (by decide) (by simp [-List.map_map, embAt, nm, AObj.ren, renL, Val.ren, Wd_ren, Wd_wf, BB.heap, h, h']) (by simp [-List.map_map, wfAll, AObj.wf, wfL, Val.wf, Wd_ren, Wd_wf, BB.heap, h, h']) (by simp [Wd_ren, Wd_wf, BB.heap, h, h']) rfl (by simp [-List.map_map, Val.wf, wfL, Wd_ren, Wd_wf, BB.heap, h, h']) (by simp [-List.map_map, Val.ren, renL, nm, Wd_ren, Wd_wf, BB.heap, h, h']) ?_) | (have _s : _ ≤ 4096 := of_eq_true h'; refine told [0, 1, 2, 3] b.heap (.b false) (by simp [Wd_ren, Wd_wf, BB.heap, h, h'] <;> fail) (by decide) (by simp [-List.map_map, embAt, nm, AObj.ren, renL, Val.ren, Wd_ren, Wd_wf, BB.heap, h, h']) (by simp [-List.map_map, wfAll, AObj.wf, wfL, Val.wf, Wd_ren, Wd_wf, BB.heap, h, h']) (by simp [Wd_ren, Wd_wf, BB.heap, h, h']) rfl (by simp [-List.map_map, Val.wf, wfL, Wd_ren, Wd_wf, BB.heap, h, h']) (by simp [-List.map_map, Val.ren, renL, nm, Wd_ren, Wd_wf, BB.heap, h, h']) ?_) | (refine told [0, 1, 2, 3, 4] b.heap (.b false) (by simp [Wd_ren, Wd_wf, BB.heap, h, h'] <;> fail) (by decide) (by simp [-List.map_map, embAt, nm, AObj.ren, renL, Val.ren, Wd_ren, Wd_wf, BB.heap, h, h']) (by simp [-List.map_map, wfAll, AObj.wf, wfL, Val.wf, Wd_ren, Wd_wf, BB.heap, h, h']) (by simp [Wd_ren, Wd_wf, BB.heap, h, h']) rfl (by simp [-List.map_map, Val.wf, wfL, Wd_ren, Wd_wf, BB.heap, h, h']) (by simp [-List.map_map, Val.ren, renL, nm, Wd_ren, Wd_wf, BB.heap, h, h']) ?_))
      exact ⟨rfl, rfl⟩
end Go.Proofs.YtmdilnelogechaaDoor.IR
namespace Go.Proofs.YtmdilnelogechaaDoor.IR
open Go Go.Proofs.YtmdilnelogechaaDoor.Ev
set_option linter.unusedSimpArgs false
set_option linter.unusedVariables false
set_option maxHeartbeats 4000000
attribute [local go_sem] skipV nc0 nc1 nc2 nc3 bne_self_eq_false decide_true decide_false IOp.step Opd.ev Env.get initEnv Val.cells? Val.one List.all_cons List.all_nil Bool.and_true Bool.and_self Bool.true_and bin_shr6 bin_rem bin_shrw bin_shl1 bin_shl6 bin_and1 bin_or bin_andNot bitN_eq bin_quo bin_mul bin_add bin_sub bin_lss bin_leq bin_gtr bin_geq bin_eql bin_neq eqv Val.kindNo lenNo_s lenNo_nils lenNo_sl lenNo_nilm lenNo_m lenOf_s lenOf_nils lenOf_sl lenOf_nilm unary mxs mx2 partsOf padTo List.foldl_cons List.foldl_nil wr_nil wr_step wr_zero List.set_cons_zero List.set_cons_succ List.map_cons List.map_nil z1 z2 Nat.succ_ne_zero List.length_cons List.length_nil List.cons_append List.nil_append List.append_nil List.getElem?_cons_zero List.getElem?_cons_succ List.getElem?_nil Option.map_some Option.map_none Nat.zero_add Nat.add_zero List.drop_zero List.drop_succ_cons List.take_succ_cons List.take_zero List.take_nil and_self and_true true_and Nat.le_refl Bool.not_true Bool.not_false Option.getD_some window Val.slen bnd resV resL RV.val Bool.false_eq_true BEq.rfl Bool.true_beq Bool.false_beq beq_true beq_false mk_one ite_true ite_false eqc ceqs ceq
attribute [local go_sem] Bool.false_and Int.toNat_natCast Nat.mul_one
attribute [local simp] Wd_ren Wd_wf
theorem has_c (b : BB) (hb : b.ok) (i : Int) : SoundM Tryd.prog b.m 61 [.p 0 0, .i .i64 i] b.heap (fun v H' => v = .b (b.has i) ∧ H' = b.heap) := by
  have hn0 := hb.n0
  have hn1 := hb.n1
  have hL := hb.L
  rcases b.shape with ⟨h, h'⟩ | ⟨h, h'⟩ | ⟨h, h'⟩
  all_goals
    have hp := place_c b i
    simp only [BB.m, BB.heap, h, h', if_true, if_false] at hp
    conv => arg 2; simp only [BB.m, h, h', if_true, if_false]
    refine sound_told (sound_func Tryd.func61 c61 rfl (by simp [BB.heap, h, h']) ?_)
    simp only [e61, s61]
    conv => arg 6; simp only [BB.heap, h, h', if_true, if_false]
    refine GG0 ?_
    (first | ((with_reducible apply RunP.call); (· (simp only [go_sem, reduceIte, Nat.reduceEqDiff]; (try with_reducible exact rfl))); (· (simp only [go_sem, reduceIte, Nat.reduceEqDiff]; (try with_reducible exact rfl)))) | ((with_reducible apply Run.call); (· (simp only [go_sem, reduceIte, Nat.reduceEqDiff]; (try with_reducible exact rfl))); (· (simp only [go_sem, reduceIte, Nat.reduceEqDiff]; (try with_reducible exact rfl)))) | ((with_reducible apply Run.callY); (· (simp only [go_sem, reduceIte, Nat.reduceEqDiff]; (try with_reducible exact rfl))); (· (simp only [go_sem, reduceIte, Nat.reduceEqDiff]; (try with_reducible exact rfl))); (· (simp only [go_sem, reduceIte, Nat.reduceEqDiff]; (try with_reducible exact rfl)))) | ((with_reducible apply RunP.callY); (· (simp only [go_sem, reduceIte, Nat.reduceEqDiff]; (try with_reducible exact rfl))); (· (simp only [go_sem, reduceIte, Nat.reduceEqDiff]; (try with_reducible exact rfl))); (· (simp only [go_sem, reduceIte, Nat.reduceEqDiff]; (try with_reducible exact rfl)))) | ((with_reducible apply Run.call0); (· (simp only [go_sem, reduceIte, Nat.reduceEqDiff]; (try with_reducible exact rfl))); (· (simp only [go_sem, reduceIte, Nat.reduceEqDiff]; (try with_reducible exact rfl)))))
    (first | (have _s : _ ≤ 64 := of_eq_true h; refine sound_use (hp) [0, 1, 2] rfl (by decide) (by simp [-List.map_map, embAt, nm, AObj.ren, renL, Val.ren, BB.heap, h, h']) (by simp [-List.map_map, wfAll, AObj.wf, wfL, Val.wf, BB.heap, h, h']) (by simp [-List.map_map, Val.wf, wfL, BB.heap, h, h']) (by simp [-List.map_map, Val.ren, renL, nm, BB.heap, h, h']) ?_) | (have _s : _ ≤ 4096 := of_eq_true h'; refine sound_use (hp) [0, 1, 2, 3] rfl (by decide) (by simp [-List.map_map, embAt, nm, AObj.ren, renL, Val.ren, BB.heap, h, h']) (by simp [-List.map_map, wfAll, AObj.wf, wfL, Val.wf, BB.heap, h, h']) (by simp [-List.map_map, Val.wf, wfL, BB.heap, h, h']) (by simp [-List.map_map, Val.ren, renL, nm, BB.heap, h, h']) ?_) | (refine sound_use (hp) [0, 1, 2, 3, 4] rfl (by decide) (by simp [-List.map_map, embAt, nm, AObj.ren, renL, Val.ren, BB.heap, h, h']) (by simp [-List.map_map, wfAll, AObj.wf, wfL, Val.wf, BB.heap, h, h']) (by simp [-List.map_map, Val.wf, wfL, BB.heap, h, h']) (by simp [-List.map_map, Val.ren, renL, nm, BB.heap, h, h']) ?_))
    rintro v C' ⟨rfl, rfl⟩
    simp only [merge, place, after, nm, MG, Val.ren, renL, AObj.ren, reduceIte, Nat.reduceLT, Nat.reduceAdd, Nat.reduceSub, Nat.lt_irrefl, Nat.zero_lt_one, Nat.zero_lt_succ, BB.heap, h, h', Wd_ren, if_true, if_false]
    by_cases h1 : 0 ≤ i
    · by_cases h2 : i < b.n
      · obtain ⟨j, rfl⟩ : ∃ j : Nat, i = j := ⟨i.toNat, by omega⟩
        rw [decide_t h1, decide_t h2]
        have hj : j < b.n := by omega
        try have hs := of_eq_true h
        have hjL : j / 64 < b.L := by omega
        (have g0 := Wd_get; refine GG1 ?_; clear g0)
        have hv : b.has j = b.p j := by simp [BB.has]
        rw [← hv]
        (first | (have _s : _ ≤ 64 := of_eq_true h; refine told [0, 1, 2] b.heap (.b (b.has j)) (by simp [BB.heap, h, h'] <;> fail) (by decide) (by simp [-List.map_map, embAt, nm, AObj.ren, renL, Val.ren, BB.heap, h, h']) (by simp [-List.map_map, wfAll, AObj.wf, wfL, Val.wf, BB.heap, h, h']) (by simp [BB.heap, h, h']) rfl (by simp [-List.map_map, Val.wf, wfL, BB.heap, h, h']) (by simp [-List.map_map, Val.ren, renL, nm, BB.heap, h, h']) ?_) | (have _s : _ ≤ 4096 := of_eq_true h'; refine told [0, 1, 2, 3] b.heap (.b (b.has j)) (by simp [BB.heap, h, h'] <;> fail) (by decide) (by simp [-List.map_map, embAt, nm, AObj.ren, renL, Val.ren, BB.heap, h, h']) (by simp [-List.map_map, wfAll, AObj.wf, wfL, Val.wf, BB.heap, h, h']) (by simp [BB.heap, h, h']) rfl (by simp [-List.map_map, Val.wf, wfL, BB.heap, h, h']) (by simp [-List.map_map, Val.ren, renL, nm, BB.heap, h, h']) ?_) | (refine told [0, 1, 2, 3, 4] b.heap (.b (b.has j)) (by simp [BB.heap, h, h'] <;> fail) (by decide) (by simp [-List.map_map, embAt, nm, AObj.ren, renL, Val.ren, BB.heap, h, h']) (by simp [-List.map_map, wfAll, AObj.wf, wfL, Val.wf, BB.heap, h, h']) (by simp [BB.heap, h, h']) rfl (by simp [-List.map_map, Val.wf, wfL, BB.heap, h, h']) (by simp [-List.map_map, Val.ren, renL, nm, BB.heap, h, h']) ?_))
        exact ⟨rfl, by simp only [BB.heap, h, h', if_true, if_false]⟩
      · rw [decide_t h1, decide_f h2]
        refine GG0 ?_
        have hv : b.has i = false := by
          obtain ⟨j, rfl⟩ : ∃ j : Nat, i = j := ⟨i.toNat, by omega⟩
          simp [BB.has, hb.below j (by omega)]
        rw [hv]
        (first | (have _s : _ ≤ 64 := of_eq_true h; refine told [0, 1, 2] b.heap (.b false) (by simp [BB.heap, h, h'] <;> fail) (by decide) (by simp [-List.map_map, embAt, nm, AObj.ren, renL, Val.ren, BB.heap, h, h']) (by simp [-List.map_map, wfAll, AObj.wf, wfL, Val.wf, BB.heap, h, h']) (by simp [BB.heap, h, h']) rfl (by simp [-List.map_map, Val.wf, wfL, BB.heap, h, h']) (by simp [-List.map_map, Val.ren, renL, nm, BB.heap, h, h']) ?_) | (have _s : _ ≤ 4096 := of_eq_true h'; refine told [0, 1, 2, 3] b.heap (.b false) (by simp [BB.heap, h, h'] <;> fail) (by decide) (by simp [-List.map_map, embAt, nm, AObj.ren, renL, Val.ren, BB.heap, h, h']) (by simp [-List.map_map, wfAll, AObj.wf, wfL, Val.wf, BB.heap, h, h']) (by simp [BB.heap, h, h']) rfl (by simp [-List.map_map, Val.wf, wfL, BB.heap, h, h']) (by simp [-List.map_map, Val.ren, renL, nm, BB.heap, h, h']) ?_) | (refine told [0, 1, 2, 3, 4] b.heap (.b false) (by simp [BB.heap, h, h'] <;> fail) (by decide) (by simp [-List.map_map, embAt, nm, AObj.ren, renL, Val.ren, BB.heap, h, h']) (by simp [-List.map_map, wfAll, AObj.wf, wfL, Val.wf, BB.heap, h, h']) (by simp [BB.heap, h, h']) rfl (by simp [-List.map_map, Val.wf, wfL, BB.heap, h, h']) (by simp [-List.map_map, Val.ren, renL, nm, BB.heap, h, h']) ?_))
        exact ⟨rfl, by simp only [BB.heap, h, h', if_true, if_false]⟩
    · rw [decide_f h1]
      refine GG0 ?_
      have hv : b.has i = false := by simp [BB.has, h1]
      rw [hv]
      (first | (have _s : _ ≤ 64 := of_eq_true h; refine told [0, 1, 2] b.heap (.b false) (by simp [BB.heap, h, h'] <;> fail) (by decide) (by simp [-List.map_map, embAt, nm, AObj.ren, renL, Val.ren, BB.heap, h, h']) (by simp [-List.map_map, wfAll, AObj.wf, wfL, Val.wf, BB.heap, h, h']) (by simp [BB.heap, h, h']) rfl (by simp [-List.map_map, Val.wf, wfL, BB.heap, h, h']) (by simp [-List.map_map, Val.ren, renL, nm, BB.heap, h, h']) ?_) | (have _s : _ ≤ 4096 := of_eq_true h'; refine told [0, 1, 2, 3] b.heap (.b false) (by simp [BB.heap, h, h'] <;> fail) (by decide) (by simp [-List.map_map, embAt, nm, AObj.ren, renL, Val.ren, BB.heap, h, h']) (by simp [-List.map_map, wfAll, AObj.wf, wfL, Val.wf, BB.heap, h, h']) (by simp [BB.heap, h, h']) rfl (by simp [-List.map_map, Val.wf, wfL, BB.heap, h, h']) (by simp [-List.map_map, Val.ren, renL, nm, BB.heap, h, h']) ?_) | (refine told [0, 1, 2, 3, 4] b.heap (.b false) (by simp [BB.heap, h, h'] <;> fail) (by decide) (by simp [-List.map_map, embAt, nm, AObj.ren, renL, Val.ren, BB.heap, h, h']) (by simp [-List.map_map, wfAll, AObj.wf, wfL, Val.wf, BB.heap, h, h']) (by simp [BB.heap, h, h']) rfl (by simp [-List.map_map, Val.wf, wfL, BB.heap, h, h']) (by simp [-List.map_map, Val.ren, renL, nm, BB.heap, h, h']) ?_))
      exact ⟨rfl, by simp only [BB.heap, h, h', if_true, if_false]⟩
end Go.Proofs.YtmdilnelogechaaDoor.IR
namespace Go.Proofs.YtmdilnelogechaaDoor.IR
open Go Go.Proofs.YtmdilnelogechaaDoor.Ev
set_option linter.unusedSimpArgs false
set_option linter.unusedVariables false
set_option maxHeartbeats 4000000
attribute [local go_sem] skipV nc0 nc1 nc2 nc3 bne_self_eq_false decide_true decide_false IOp.step Opd.ev Env.get initEnv Val.cells? Val.one List.all_cons List.all_nil Bool.and_true Bool.and_self Bool.true_and bin_shr6 bin_rem bin_shrw bin_shl1 bin_shl6 bin_and1 bin_or bin_andNot bitN_eq bin_quo bin_mul bin_add bin_sub bin_lss bin_leq bin_gtr bin_geq bin_eql bin_neq eqv Val.kindNo lenNo_s lenNo_nils lenNo_sl lenNo_nilm lenNo_m lenOf_s lenOf_nils lenOf_sl lenOf_nilm unary mxs mx2 partsOf padTo List.foldl_cons List.foldl_nil wr_nil wr_step wr_zero List.set_cons_zero List.set_cons_succ List.map_cons List.map_nil z1 z2 Nat.succ_ne_zero List.length_cons List.length_nil List.cons_append List.nil_append List.append_nil List.getElem?_cons_zero List.getElem?_cons_succ List.getElem?_nil Option.map_some Option.map_none Nat.zero_add Nat.add_zero List.drop_zero List.drop_succ_cons List.take_succ_cons List.take_zero List.take_nil and_self and_true true_and Nat.le_refl Bool.not_true Bool.not_false Option.getD_some window Val.slen bnd resV resL RV.val Bool.false_eq_true BEq.rfl Bool.true_beq Bool.false_beq beq_true beq_false mk_one ite_true ite_false eqc ceqs ceq
attribute [local go_sem] Int.toNat_natCast Nat.mul_one
attribute [local simp] Wd_ren Wd_wf
def BB.set (b : BB) (j : Nat) : BB := { b with p := upd b.p j true, k := b.k + 1 }
def SetPost (b : BB) (i : Int) (v : Val) (H' : Heap) : Prop :=
  (b.has i = false ∧ 0 ≤ i ∧ i < b.n ∧ v = .b true ∧ H' = (b.set i.toNat).heap) ∨ ((b.has i = true ∨ ¬ (0 ≤ i ∧ i < b.n)) ∧ v = .b false ∧ H' = b.heap)
theorem set_c (b : BB) (hb : b.ok) (i : Int) : SoundM Tryd.prog b.m 47 [.p 0 0, .i .i64 i] b.heap (SetPost b i) := by
  have hn0 := hb.n0
  have hn1 := hb.n1
  have hL := hb.L
  have hM := hb.M
  have hk0 := hb.k0
  have hk1 := hb.k1
  rcases b.shape with ⟨h, h'⟩ | ⟨h, h'⟩ | ⟨h, h'⟩
  all_goals
    have hp := place_c b i
    have hh := has_c b hb i
    simp only [BB.m, BB.heap, h, h', if_true, if_false] at hp hh
    conv => arg 2; simp only [BB.m, h, h', if_true, if_false]
    refine sound_told (sound_func Tryd.func47 c47 rfl (by simp [BB.heap, h, h']) ?_)
    simp only [e47, s47]
    conv => arg 6; simp only [BB.heap, h, h', if_true, if_false]
    refine GG0 ?_
    (first | ((with_reducible apply RunP.call); (· (simp only [go_sem, reduceIte, Nat.reduceEqDiff]; (try with_reducible exact rfl))); (· (simp only [go_sem, reduceIte, Nat.reduceEqDiff]; (try with_reducible exact rfl)))) | ((with_reducible apply Run.call); (· (simp only [go_sem, reduceIte, Nat.reduceEqDiff]; (try with_reducible exact rfl))); (· (simp only [go_sem, reduceIte, Nat.reduceEqDiff]; (try with_reducible exact rfl)))) | ((with_reducible apply Run.callY); (· (simp only [go_sem, reduceIte, Nat.reduceEqDiff]; (try with_reducible exact rfl))); (· (simp only [go_sem, reduceIte, Nat.reduceEqDiff]; (try with_reducible exact rfl))); (· (simp only [go_sem, reduceIte, Nat.reduceEqDiff]; (try with_reducible exact rfl)))) | ((with_reducible apply RunP.callY); (· (simp only [go_sem, reduceIte, Nat.reduceEqDiff]; (try with_reducible exact rfl))); (· (simp only [go_sem, reduceIte, Nat.reduceEqDiff]; (try with_reducible exact rfl))); (· (simp only [go_sem, reduceIte, Nat.reduceEqDiff]; (try with_reducible exact rfl)))) | ((with_reducible apply Run.call0); (· (simp only [go_sem, reduceIte, Nat.reduceEqDiff]; (try with_reducible exact rfl))); (· (simp only [go_sem, reduceIte, Nat.reduceEqDiff]; (try with_reducible exact rfl)))))
    (first | (have _s : _ ≤ 64 := of_eq_true h; refine sound_use (hp) [0, 1, 2] rfl (by decide) (by simp [-List.map_map, embAt, nm, AObj.ren, renL, Val.ren, BB.heap, h, h']) (by simp [-List.map_map, wfAll, AObj.wf, wfL, Val.wf, BB.heap, h, h']) (by simp [-List.map_map, Val.wf, wfL, BB.heap, h, h']) (by simp [-List.map_map, Val.ren, renL, nm, BB.heap, h, h']) ?_) | (have _s : _ ≤ 4096 := of_eq_true h'; refine sound_use (hp) [0, 1, 2, 3] rfl (by decide) (by simp [-List.map_map, embAt, nm, AObj.ren, renL, Val.ren, BB.heap, h, h']) (by simp [-List.map_map, wfAll, AObj.wf, wfL, Val.wf, BB.heap, h, h']) (by simp [-List.map_map, Val.wf, wfL, BB.heap, h, h']) (by simp [-List.map_map, Val.ren, renL, nm, BB.heap, h, h']) ?_) | (refine sound_use (hp) [0, 1, 2, 3, 4] rfl (by decide) (by simp [-List.map_map, embAt, nm, AObj.ren, renL, Val.ren, BB.heap, h, h']) (by simp [-List.map_map, wfAll, AObj.wf, wfL, Val.wf, BB.heap, h, h']) (by simp [-List.map_map, Val.wf, wfL, BB.heap, h, h']) (by simp [-List.map_map, Val.ren, renL, nm, BB.heap, h, h']) ?_))
    rintro v C' ⟨rfl, rfl⟩
    simp only [merge, place, after, nm, MG, Val.ren, renL, AObj.ren, reduceIte, Nat.reduceLT, Nat.reduceAdd, Nat.reduceSub, Nat.lt_irrefl, Nat.zero_lt_one, Nat.zero_lt_succ, BB.heap, h, h', Wd_ren, if_true, if_false]
    by_cases h1 : 0 ≤ i ∧ i < b.n
    · obtain ⟨j, rfl⟩ : ∃ j : Nat, i = j := ⟨i.toNat, by omega⟩
      rw [decide_t h1.1, decide_t h1.2]
      have hj : j < b.n := by omega
      try have hs := of_eq_true h
      try have hs2 := of_eq_true h'
      try have hs3 := of_eq_false h'
      have hjL : j / 64 < b.L := by omega
      have hjM : j / 64 / 64 < b.M := by omega
      refine GG0 ?_
      (first | ((with_reducible apply RunP.call); (· (simp only [go_sem, reduceIte, Nat.reduceEqDiff]; (try with_reducible exact rfl))); (· (simp only [go_sem, reduceIte, Nat.reduceEqDiff]; (try with_reducible exact rfl)))) | ((with_reducible apply Run.call); (· (simp only [go_sem, reduceIte, Nat.reduceEqDiff]; (try with_reducible exact rfl))); (· (simp only [go_sem, reduceIte, Nat.reduceEqDiff]; (try with_reducible exact rfl)))) | ((with_reducible apply Run.callY); (· (simp only [go_sem, reduceIte, Nat.reduceEqDiff]; (try with_reducible exact rfl))); (· (simp only [go_sem, reduceIte, Nat.reduceEqDiff]; (try with_reducible exact rfl))); (· (simp only [go_sem, reduceIte, Nat.reduceEqDiff]; (try with_reducible exact rfl)))) | ((with_reducible apply RunP.callY); (· (simp only [go_sem, reduceIte, Nat.reduceEqDiff]; (try with_reducible exact rfl))); (· (simp only [go_sem, reduceIte, Nat.reduceEqDiff]; (try with_reducible exact rfl))); (· (simp only [go_sem, reduceIte, Nat.reduceEqDiff]; (try with_reducible exact rfl)))) | ((with_reducible apply Run.call0); (· (simp only [go_sem, reduceIte, Nat.reduceEqDiff]; (try with_reducible exact rfl))); (· (simp only [go_sem, reduceIte, Nat.reduceEqDiff]; (try with_reducible exact rfl)))))
      (first | (have _s : _ ≤ 64 := of_eq_true h; refine sound_use (hh) [0, 1, 2] rfl (by decide) (by simp [-List.map_map, embAt, nm, AObj.ren, renL, Val.ren, BB.heap, h, h']) (by simp [-List.map_map, wfAll, AObj.wf, wfL, Val.wf, BB.heap, h, h']) (by simp [-List.map_map, Val.wf, wfL, BB.heap, h, h']) (by simp [-List.map_map, Val.ren, renL, nm, BB.heap, h, h']) ?_) | (have _s : _ ≤ 4096 := of_eq_true h'; refine sound_use (hh) [0, 1, 2, 3] rfl (by decide) (by simp [-List.map_map, embAt, nm, AObj.ren, renL, Val.ren, BB.heap, h, h']) (by simp [-List.map_map, wfAll, AObj.wf, wfL, Val.wf, BB.heap, h, h']) (by simp [-List.map_map, Val.wf, wfL, BB.heap, h, h']) (by simp [-List.map_map, Val.ren, renL, nm, BB.heap, h, h']) ?_) | (refine sound_use (hh) [0, 1, 2, 3, 4] rfl (by decide) (by simp [-List.map_map, embAt, nm, AObj.ren, renL, Val.ren, BB.heap, h, h']) (by simp [-List.map_map, wfAll, AObj.wf, wfL, Val.wf, BB.heap, h, h']) (by simp [-List.map_map, Val.wf, wfL, BB.heap, h, h']) (by simp [-List.map_map, Val.ren, renL, nm, BB.heap, h, h']) ?_))
      rintro v C' ⟨rfl, rfl⟩
      simp only [merge, place, after, nm, MG, Val.ren, renL, AObj.ren, reduceIte, Nat.reduceLT, Nat.reduceAdd, Nat.reduceSub, Nat.lt_irrefl, Nat.zero_lt_one, Nat.zero_lt_succ, BB.heap, h, h', Wd_ren, if_true, if_false]
      cases hhas : b.has j
      · refine GG0 ?_
        refine ei_unroll 4 ?_
        repeat (refine unr ?_; (have g0 := Wd_get; have g1 := Wd_len; have g2 := Wd_wr; refine GG3 ?_; clear g0 g1 g2))
        (first | (have _s : _ ≤ 64 := of_eq_true h; refine told [0, 1, 2] (b.set j).heap (.b true) (by simp [BB.heap, BB.set, up_set, h, h'] <;> fail) (by decide) (by simp [-List.map_map, embAt, nm, AObj.ren, renL, Val.ren, BB.heap, BB.set, up_set, h, h']) (by simp [-List.map_map, wfAll, AObj.wf, wfL, Val.wf, BB.heap, BB.set, up_set, h, h']) (by simp [BB.heap, BB.set, up_set, h, h']) rfl (by simp [-List.map_map, Val.wf, wfL, BB.heap, BB.set, up_set, h, h']) (by simp [-List.map_map, Val.ren, renL, nm, BB.heap, BB.set, up_set, h, h']) ?_) | (have _s : _ ≤ 4096 := of_eq_true h'; refine told [0, 1, 2, 3] (b.set j).heap (.b true) (by simp [BB.heap, BB.set, up_set, h, h'] <;> fail) (by decide) (by simp [-List.map_map, embAt, nm, AObj.ren, renL, Val.ren, BB.heap, BB.set, up_set, h, h']) (by simp [-List.map_map, wfAll, AObj.wf, wfL, Val.wf, BB.heap, BB.set, up_set, h, h']) (by simp [BB.heap, BB.set, up_set, h, h']) rfl (by simp [-List.map_map, Val.wf, wfL, BB.heap, BB.set, up_set, h, h']) (by simp [-List.map_map, Val.ren, renL, nm, BB.heap, BB.set, up_set, h, h']) ?_) | (refine told [0, 1, 2, 3, 4] (b.set j).heap (.b true) (by simp [BB.heap, BB.set, up_set, h, h'] <;> fail) (by decide) (by simp [-List.map_map, embAt, nm, AObj.ren, renL, Val.ren, BB.heap, BB.set, up_set, h, h']) (by simp [-List.map_map, wfAll, AObj.wf, wfL, Val.wf, BB.heap, BB.set, up_set, h, h']) (by simp [BB.heap, BB.set, up_set, h, h']) rfl (by simp [-List.map_map, Val.wf, wfL, BB.heap, BB.set, up_set, h, h']) (by simp [-List.map_map, Val.ren, renL, nm, BB.heap, BB.set, up_set, h, h']) ?_))
        exact .inl ⟨hhas, by omega, by omega, rfl, by rw [Int.toNat_natCast]⟩
      · refine GG0 ?_
        (first | (have _s : _ ≤ 64 := of_eq_true h; refine told [0, 1, 2] b.heap (.b false) (by simp [BB.heap, h, h'] <;> fail) (by decide) (by simp [-List.map_map, embAt, nm, AObj.ren, renL, Val.ren, BB.heap, h, h']) (by simp [-List.map_map, wfAll, AObj.wf, wfL, Val.wf, BB.heap, h, h']) (by simp [BB.heap, h, h']) rfl (by simp [-List.map_map, Val.wf, wfL, BB.heap, h, h']) (by simp [-List.map_map, Val.ren, renL, nm, BB.heap, h, h']) ?_) | (have _s : _ ≤ 4096 := of_eq_true h'; refine told [0, 1, 2, 3] b.heap (.b false) (by simp [BB.heap, h, h'] <;> fail) (by decide) (by simp [-List.map_map, embAt, nm, AObj.ren, renL, Val.ren, BB.heap, h, h']) (by simp [-List.map_map, wfAll, AObj.wf, wfL, Val.wf, BB.heap, h, h']) (by simp [BB.heap, h, h']) rfl (by simp [-List.map_map, Val.wf, wfL, BB.heap, h, h']) (by simp [-List.map_map, Val.ren, renL, nm, BB.heap, h, h']) ?_) | (refine told [0, 1, 2, 3, 4] b.heap (.b false) (by simp [BB.heap, h, h'] <;> fail) (by decide) (by simp [-List.map_map, embAt, nm, AObj.ren, renL, Val.ren, BB.heap, h, h']) (by simp [-List.map_map, wfAll, AObj.wf, wfL, Val.wf, BB.heap, h, h']) (by simp [BB.heap, h, h']) rfl (by simp [-List.map_map, Val.wf, wfL, BB.heap, h, h']) (by simp [-List.map_map, Val.ren, renL, nm, BB.heap, h, h']) ?_))
        exact .inr ⟨.inl hhas, rfl, rfl⟩
    · have hf : (decide (0 ≤ i) && decide (i < (b.n : Int))) = false := by simp; omega
      rw [hf]
      refine GG0 ?_
      (first | (have _s : _ ≤ 64 := of_eq_true h; refine told [0, 1, 2] b.heap (.b false) (by simp [BB.heap, h, h'] <;> fail) (by decide) (by simp [-List.map_map, embAt, nm, AObj.ren, renL, Val.ren, BB.heap, h, h']) (by simp [-List.map_map, wfAll, AObj.wf, wfL, Val.wf, BB.heap, h, h']) (by simp [BB.heap, h, h']) rfl (by simp [-List.map_map, Val.wf, wfL, BB.heap, h, h']) (by simp [-List.map_map, Val.ren, renL, nm, BB.heap, h, h']) ?_) | (have _s : _ ≤ 4096 := of_eq_true h'; refine told [0, 1, 2, 3] b.heap (.b false) (by simp [BB.heap, h, h'] <;> fail) (by decide) (by simp [-List.map_map, embAt, nm, AObj.ren, renL, Val.ren, BB.heap, h, h']) (by simp [-List.map_map, wfAll, AObj.wf, wfL, Val.wf, BB.heap, h, h']) (by simp [BB.heap, h, h']) rfl (by simp [-List.map_map, Val.wf, wfL, BB.heap, h, h']) (by simp [-List.map_map, Val.ren, renL, nm, BB.heap, h, h']) ?_) | (refine told [0, 1, 2, 3, 4] b.heap (.b false) (by simp [BB.heap, h, h'] <;> fail) (by decide) (by simp [-List.map_map, embAt, nm, AObj.ren, renL, Val.ren, BB.heap, h, h']) (by simp [-List.map_map, wfAll, AObj.wf, wfL, Val.wf, BB.heap, h, h']) (by simp [BB.heap, h, h']) rfl (by simp [-List.map_map, Val.wf, wfL, BB.heap, h, h']) (by simp [-List.map_map, Val.ren, renL, nm, BB.heap, h, h']) ?_))
      exact .inr ⟨.inr h1, rfl, rfl⟩
end Go.Proofs.YtmdilnelogechaaDoor.IR
namespace Go.Proofs.YtmdilnelogechaaDoor.IR
open Go Go.Proofs.YtmdilnelogechaaDoor.Ev
set_option linter.unusedSimpArgs false
set_option linter.unusedVariables false
set_option maxHeartbeats 4000000
attribute [local go_sem] skipV nc0 nc1 nc2 nc3 bne_self_eq_false decide_true decide_false IOp.step Opd.ev Env.get initEnv Val.cells? Val.one List.all_cons List.all_nil Bool.and_true Bool.and_self Bool.true_and bin_shr6 bin_rem bin_shrw bin_shl1 bin_shl6 bin_and1 bin_or bin_andNot bitN_eq bin_quo bin_mul bin_add bin_sub bin_lss bin_leq bin_gtr bin_geq bin_eql bin_neq eqv Val.kindNo lenNo_s lenNo_nils lenNo_sl lenNo_nilm lenNo_m lenOf_s lenOf_nils lenOf_sl lenOf_nilm unary mxs mx2 partsOf padTo List.foldl_cons List.foldl_nil wr_nil wr_step wr_zero List.set_cons_zero List.set_cons_succ List.map_cons List.map_nil z1 z2 Nat.succ_ne_zero List.length_cons List.length_nil List.cons_append List.nil_append List.append_nil List.getElem?_cons_zero List.getElem?_cons_succ List.getElem?_nil Option.map_some Option.map_none Nat.zero_add Nat.add_zero List.drop_zero List.drop_succ_cons List.take_succ_cons List.take_zero List.take_nil and_self and_true true_and Nat.le_refl Bool.not_true Bool.not_false Option.getD_some window Val.slen bnd resV resL RV.val Bool.false_eq_true BEq.rfl Bool.true_beq Bool.false_beq beq_true beq_false mk_one ite_true ite_false eqc ceqs ceq
attribute [local go_sem] Int.toNat_natCast Nat.mul_one
attribute [local simp] Wd_ren Wd_wf
def BB.clear (b : BB) (j : Nat) : BB := { b with p := upd b.p j false, k := b.k - 1 }
def ClrPost (b : BB) (i : Int) (v : Val) (H' : Heap) : Prop :=
  (b.has i = true ∧ v = .b true ∧ H' = (b.clear i.toNat).heap) ∨ (b.has i = false ∧ v = .b false ∧ H' = b.heap)
theorem BB.has_in {b : BB} (hb : b.ok) {i : Int} (h : b.has i = true) : 0 ≤ i ∧ i < b.n := by
  unfold BB.has at h
  simp only [Bool.and_eq_true, decide_eq_true_eq] at h
  refine ⟨h.1, ?_⟩
  apply Int.lt_of_not_ge
  intro hge
  have := hb.below i.toNat (by omega)
  rw [h.2] at this; exact Bool.noConfusion this
theorem clear_c (b : BB) (hb : b.ok) (i : Int) (hpos : b.has i = true → 1 ≤ b.k) : SoundM Tryd.prog b.m 48 [.p 0 0, .i .i64 i] b.heap (ClrPost b i) := by
  have hn0 := hb.n0
  have hn1 := hb.n1
  have hL := hb.L
  have hM := hb.M
  have hk0 := hb.k0
  have hk1 := hb.k1
  rcases b.shape with ⟨h, h'⟩ | ⟨h, h'⟩ | ⟨h, h'⟩
  all_goals
    have hh := has_c b hb i
    simp only [BB.m, BB.heap, h, h', if_true, if_false] at hh
    conv => arg 2; simp only [BB.m, h, h', if_true, if_false]
    refine sound_told (sound_func Tryd.func48 c48 rfl (by simp [BB.heap, h, h']) ?_)
    simp only [e48, s48]
    conv => arg 6; simp only [BB.heap, h, h', if_true, if_false]
    refine GG0 ?_
    (first | ((with_reducible apply RunP.call); (· (simp only [go_sem, reduceIte, Nat.reduceEqDiff]; (try with_reducible exact rfl))); (· (simp only [go_sem, reduceIte, Nat.reduceEqDiff]; (try with_reducible exact rfl)))) | ((with_reducible apply Run.call); (· (simp only [go_sem, reduceIte, Nat.reduceEqDiff]; (try with_reducible exact rfl))); (· (simp only [go_sem, reduceIte, Nat.reduceEqDiff]; (try with_reducible exact rfl)))) | ((with_reducible apply Run.callY); (· (simp only [go_sem, reduceIte, Nat.reduceEqDiff]; (try with_reducible exact rfl))); (· (simp only [go_sem, reduceIte, Nat.reduceEqDiff]; (try with_reducible exact rfl))); (· (simp only [go_sem, reduceIte, Nat.reduceEqDiff]; (try with_reducible exact rfl)))) | ((with_reducible apply RunP.callY); (· (simp only [go_sem, reduceIte, Nat.reduceEqDiff]; (try with_reducible exact rfl))); (· (simp only [go_sem, reduceIte, Nat.reduceEqDiff]; (try with_reducible exact rfl))); (· (simp only [go_sem, reduceIte, Nat.reduceEqDiff]; (try with_reducible exact rfl)))) | ((with_reducible apply Run.call0); (· (simp only [go_sem, reduceIte, Nat.reduceEqDiff]; (try with_reducible exact rfl))); (· (simp only [go_sem, reduceIte, Nat.reduceEqDiff]; (try with_reducible exact rfl)))))
    (first | (have _s : _ ≤ 64 := of_eq_true h; refine sound_use (hh) [0, 1, 2] rfl (by decide) (by simp [-List.map_map, embAt, nm, AObj.ren, renL, Val.ren, BB.heap, h, h']) (by simp [-List.map_map, wfAll, AObj.wf, wfL, Val.wf, BB.heap, h, h']) (by simp [-List.map_map, Val.wf, wfL, BB.heap, h, h']) (by simp [-List.map_map, Val.ren, renL, nm, BB.heap, h, h']) ?_) | (have _s : _ ≤ 4096 := of_eq_true h'; refine sound_use (hh) [0, 1, 2, 3] rfl (by decide) (by simp [-List.map_map, embAt, nm, AObj.ren, renL, Val.ren, BB.heap, h, h']) (by simp [-List.map_map, wfAll, AObj.wf, wfL, Val.wf, BB.heap, h, h']) (by simp [-List.map_map, Val.wf, wfL, BB.heap, h, h']) (by simp [-List.map_map, Val.ren, renL, nm, BB.heap, h, h']) ?_) | (refine sound_use (hh) [0, 1, 2, 3, 4] rfl (by decide) (by simp [-List.map_map, embAt, nm, AObj.ren, renL, Val.ren, BB.heap, h, h']) (by simp [-List.map_map, wfAll, AObj.wf, wfL, Val.wf, BB.heap, h, h']) (by simp [-List.map_map, Val.wf, wfL, BB.heap, h, h']) (by simp [-List.map_map, Val.ren, renL, nm, BB.heap, h, h']) ?_))
    rintro v C' ⟨rfl, rfl⟩
    simp only [merge, place, after, nm, MG, Val.ren, renL, AObj.ren, reduceIte, Nat.reduceLT, Nat.reduceAdd, Nat.reduceSub, Nat.lt_irrefl, Nat.zero_lt_one, Nat.zero_lt_succ, BB.heap, h, h', Wd_ren, if_true, if_false]
    cases hhas : b.has i
    · refine GG0 ?_
      (first | (have _s : _ ≤ 64 := of_eq_true h; refine told [0, 1, 2] b.heap (.b false) (by simp [BB.heap, h, h'] <;> fail) (by decide) (by simp [-List.map_map, embAt, nm, AObj.ren, renL, Val.ren, BB.heap, h, h']) (by simp [-List.map_map, wfAll, AObj.wf, wfL, Val.wf, BB.heap, h, h']) (by simp [BB.heap, h, h']) rfl (by simp [-List.map_map, Val.wf, wfL, BB.heap, h, h']) (by simp [-List.map_map, Val.ren, renL, nm, BB.heap, h, h']) ?_) | (have _s : _ ≤ 4096 := of_eq_true h'; refine told [0, 1, 2, 3] b.heap (.b false) (by simp [BB.heap, h, h'] <;> fail) (by decide) (by simp [-List.map_map, embAt, nm, AObj.ren, renL, Val.ren, BB.heap, h, h']) (by simp [-List.map_map, wfAll, AObj.wf, wfL, Val.wf, BB.heap, h, h']) (by simp [BB.heap, h, h']) rfl (by simp [-List.map_map, Val.wf, wfL, BB.heap, h, h']) (by simp [-List.map_map, Val.ren, renL, nm, BB.heap, h, h']) ?_) | (refine told [0, 1, 2, 3, 4] b.heap (.b false) (by simp [BB.heap, h, h'] <;> fail) (by decide) (by simp [-List.map_map, embAt, nm, AObj.ren, renL, Val.ren, BB.heap, h, h']) (by simp [-List.map_map, wfAll, AObj.wf, wfL, Val.wf, BB.heap, h, h']) (by simp [BB.heap, h, h']) rfl (by simp [-List.map_map, Val.wf, wfL, BB.heap, h, h']) (by simp [-List.map_map, Val.ren, renL, nm, BB.heap, h, h']) ?_))
      exact .inr ⟨hhas, rfl, rfl⟩
    · have h1 := BB.has_in hb hhas
      have hk2 := hpos hhas
      obtain ⟨j, rfl⟩ : ∃ j : Nat, i = j := ⟨i.toNat, by omega⟩
      have hj : j < b.n := by omega
      try have hs := of_eq_true h
      try have hs2 := of_eq_true h'
      try have hs3 := of_eq_false h'
      have hjL : j / 64 < b.L := by omega
      have hjM : j / 64 / 64 < b.M := by omega
      refine GG0 ?_
      refine ei_unroll 4 ?_
      refine unr ?_
      (have g0 := Wd_get; have g1 := Wd_len; have g2 := Wd_wr; refine GG3 ?_; clear g0 g1 g2)
      by_cases z0 : word (upd b.p j false) (j / 64) = 0
      · have e0 := up_clear0 b.p j z0
        have f0 : (((word (upd b.p j false) (j / 64) : Nat) : Int) != 0) = false := by rw [z0]; rfl
        (have g0 := Wd_get; have g1 := Wd_len; have g2 := Wd_wr; have g3 := f0; refine GG4 ?_; clear g0 g1 g2 g3)
        repeat (refine unr ?_; (have g0 := Wd_get; have g1 := Wd_len; have g2 := Wd_wr; refine GG3 ?_; clear g0 g1 g2))
        first
          | ((first | (have _s : _ ≤ 64 := of_eq_true h; refine told [0, 1, 2] (b.clear j).heap (.b true) (by simp [BB.heap, BB.clear, e0, h, h'] <;> fail) (by decide) (by simp [-List.map_map, embAt, nm, AObj.ren, renL, Val.ren, BB.heap, BB.clear, e0, h, h']) (by simp [-List.map_map, wfAll, AObj.wf, wfL, Val.wf, BB.heap, BB.clear, e0, h, h']) (by simp [BB.heap, BB.clear, e0, h, h']) rfl (by simp [-List.map_map, Val.wf, wfL, BB.heap, BB.clear, e0, h, h']) (by simp [-List.map_map, Val.ren, renL, nm, BB.heap, BB.clear, e0, h, h']) ?_) | (have _s : _ ≤ 4096 := of_eq_true h'; refine told [0, 1, 2, 3] (b.clear j).heap (.b true) (by simp [BB.heap, BB.clear, e0, h, h'] <;> fail) (by decide) (by simp [-List.map_map, embAt, nm, AObj.ren, renL, Val.ren, BB.heap, BB.clear, e0, h, h']) (by simp [-List.map_map, wfAll, AObj.wf, wfL, Val.wf, BB.heap, BB.clear, e0, h, h']) (by simp [BB.heap, BB.clear, e0, h, h']) rfl (by simp [-List.map_map, Val.wf, wfL, BB.heap, BB.clear, e0, h, h']) (by simp [-List.map_map, Val.ren, renL, nm, BB.heap, BB.clear, e0, h, h']) ?_) | (refine told [0, 1, 2, 3, 4] (b.clear j).heap (.b true) (by simp [BB.heap, BB.clear, e0, h, h'] <;> fail) (by decide) (by simp [-List.map_map, embAt, nm, AObj.ren, renL, Val.ren, BB.heap, BB.clear, e0, h, h']) (by simp [-List.map_map, wfAll, AObj.wf, wfL, Val.wf, BB.heap, BB.clear, e0, h, h']) (by simp [BB.heap, BB.clear, e0, h, h']) rfl (by simp [-List.map_map, Val.wf, wfL, BB.heap, BB.clear, e0, h, h']) (by simp [-List.map_map, Val.ren, renL, nm, BB.heap, BB.clear, e0, h, h']) ?_))
             exact .inl ⟨hhas, rfl, by rw [Int.toNat_natCast]⟩)
          | (by_cases z1 : word (upd (up b.p) (j / 64) false) ((j / 64) / 64) = 0
             · have e1 := up_clear0 (up b.p) (j / 64) z1
               have f1 : (((word (upd (up b.p) (j / 64) false) ((j / 64) / 64) : Nat) : Int) != 0) = false := by rw [z1]; rfl
               (have g0 := Wd_get; have g1 := Wd_len; have g2 := Wd_wr; have g3 := f1; refine GG4 ?_; clear g0 g1 g2 g3)
               repeat (refine unr ?_; (have g0 := Wd_get; have g1 := Wd_len; have g2 := Wd_wr; refine GG3 ?_; clear g0 g1 g2))
               first
                 | ((first | (have _s : _ ≤ 64 := of_eq_true h; refine told [0, 1, 2] (b.clear j).heap (.b true) (by simp [BB.heap, BB.clear, e0, e1, h, h'] <;> fail) (by decide) (by simp [-List.map_map, embAt, nm, AObj.ren, renL, Val.ren, BB.heap, BB.clear, e0, e1, h, h']) (by simp [-List.map_map, wfAll, AObj.wf, wfL, Val.wf, BB.heap, BB.clear, e0, e1, h, h']) (by simp [BB.heap, BB.clear, e0, e1, h, h']) rfl (by simp [-List.map_map, Val.wf, wfL, BB.heap, BB.clear, e0, e1, h, h']) (by simp [-List.map_map, Val.ren, renL, nm, BB.heap, BB.clear, e0, e1, h, h']) ?_) | (have _s : _ ≤ 4096 := of_eq_true h'; refine told [0, 1, 2, 3] (b.clear j).heap (.b true) (by simp [BB.heap, BB.clear, e0, e1, h, h'] <;> fail) (by decide) (by simp [-List.map_map, embAt, nm, AObj.ren, renL, Val.ren, BB.heap, BB.clear, e0, e1, h, h']) (by simp [-List.map_map, wfAll, AObj.wf, wfL, Val.wf, BB.heap, BB.clear, e0, e1, h, h']) (by simp [BB.heap, BB.clear, e0, e1, h, h']) rfl (by simp [-List.map_map, Val.wf, wfL, BB.heap, BB.clear, e0, e1, h, h']) (by simp [-List.map_map, Val.ren, renL, nm, BB.heap, BB.clear, e0, e1, h, h']) ?_) | (refine told [0, 1, 2, 3, 4] (b.clear j).heap (.b true) (by simp [BB.heap, BB.clear, e0, e1, h, h'] <;> fail) (by decide) (by simp [-List.map_map, embAt, nm, AObj.ren, renL, Val.ren, BB.heap, BB.clear, e0, e1, h, h']) (by simp [-List.map_map, wfAll, AObj.wf, wfL, Val.wf, BB.heap, BB.clear, e0, e1, h, h']) (by simp [BB.heap, BB.clear, e0, e1, h, h']) rfl (by simp [-List.map_map, Val.wf, wfL, BB.heap, BB.clear, e0, e1, h, h']) (by simp [-List.map_map, Val.ren, renL, nm, BB.heap, BB.clear, e0, e1, h, h']) ?_))
                    exact .inl ⟨hhas, rfl, by rw [Int.toNat_natCast]⟩)
                 | (by_cases z2 : word (upd (up (up b.p)) (j / 64 / 64) false) ((j / 64 / 64) / 64) = 0
                    · have e2 := up_clear0 (up (up b.p)) (j / 64 / 64) z2
                      have f2 : (((word (upd (up (up b.p)) (j / 64 / 64) false) ((j / 64 / 64) / 64) : Nat) : Int) != 0) = false := by rw [z2]; rfl
                      (have g0 := Wd_get; have g1 := Wd_len; have g2 := Wd_wr; have g3 := f2; refine GG4 ?_; clear g0 g1 g2 g3)
                      repeat (refine unr ?_; (have g0 := Wd_get; have g1 := Wd_len; have g2 := Wd_wr; refine GG3 ?_; clear g0 g1 g2))
                      (first | (have _s : _ ≤ 64 := of_eq_true h; refine told [0, 1, 2] (b.clear j).heap (.b true) (by simp [BB.heap, BB.clear, e0, e1, e2, h, h'] <;> fail) (by decide) (by simp [-List.map_map, embAt, nm, AObj.ren, renL, Val.ren, BB.heap, BB.clear, e0, e1, e2, h, h']) (by simp [-List.map_map, wfAll, AObj.wf, wfL, Val.wf, BB.heap, BB.clear, e0, e1, e2, h, h']) (by simp [BB.heap, BB.clear, e0, e1, e2, h, h']) rfl (by simp [-List.map_map, Val.wf, wfL, BB.heap, BB.clear, e0, e1, e2, h, h']) (by simp [-List.map_map, Val.ren, renL, nm, BB.heap, BB.clear, e0, e1, e2, h, h']) ?_) | (have _s : _ ≤ 4096 := of_eq_true h'; refine told [0, 1, 2, 3] (b.clear j).heap (.b true) (by simp [BB.heap, BB.clear, e0, e1, e2, h, h'] <;> fail) (by decide) (by simp [-List.map_map, embAt, nm, AObj.ren, renL, Val.ren, BB.heap, BB.clear, e0, e1, e2, h, h']) (by simp [-List.map_map, wfAll, AObj.wf, wfL, Val.wf, BB.heap, BB.clear, e0, e1, e2, h, h']) (by simp [BB.heap, BB.clear, e0, e1, e2, h, h']) rfl (by simp [-List.map_map, Val.wf, wfL, BB.heap, BB.clear, e0, e1, e2, h, h']) (by simp [-List.map_map, Val.ren, renL, nm, BB.heap, BB.clear, e0, e1, e2, h, h']) ?_) | (refine told [0, 1, 2, 3, 4] (b.clear j).heap (.b true) (by simp [BB.heap, BB.clear, e0, e1, e2, h, h'] <;> fail) (by decide) (by simp [-List.map_map, embAt, nm, AObj.ren, renL, Val.ren, BB.heap, BB.clear, e0, e1, e2, h, h']) (by simp [-List.map_map, wfAll, AObj.wf, wfL, Val.wf, BB.heap, BB.clear, e0, e1, e2, h, h']) (by simp [BB.heap, BB.clear, e0, e1, e2, h, h']) rfl (by simp [-List.map_map, Val.wf, wfL, BB.heap, BB.clear, e0, e1, e2, h, h']) (by simp [-List.map_map, Val.ren, renL, nm, BB.heap, BB.clear, e0, e1, e2, h, h']) ?_))
                      exact .inl ⟨hhas, rfl, by rw [Int.toNat_natCast]⟩
                    · have e2 := up_clear1 (up (up b.p)) (j / 64 / 64) z2
                      have f2 : (((word (upd (up (up b.p)) (j / 64 / 64) false) ((j / 64 / 64) / 64) : Nat) : Int) != 0) = true := by simpa using z2
                      (have g0 := Wd_get; have g1 := Wd_len; have g2 := Wd_wr; have g3 := f2; refine GG4 ?_; clear g0 g1 g2 g3)
                      (first | (have _s : _ ≤ 64 := of_eq_true h; refine told [0, 1, 2] (b.clear j).heap (.b true) (by simp [BB.heap, BB.clear, e0, e1, e2, h, h'] <;> fail) (by decide) (by simp [-List.map_map, embAt, nm, AObj.ren, renL, Val.ren, BB.heap, BB.clear, e0, e1, e2, h, h']) (by simp [-List.map_map, wfAll, AObj.wf, wfL, Val.wf, BB.heap, BB.clear, e0, e1, e2, h, h']) (by simp [BB.heap, BB.clear, e0, e1, e2, h, h']) rfl (by simp [-List.map_map, Val.wf, wfL, BB.heap, BB.clear, e0, e1, e2, h, h']) (by simp [-List.map_map, Val.ren, renL, nm, BB.heap, BB.clear, e0, e1, e2, h, h']) ?_) | (have _s : _ ≤ 4096 := of_eq_true h'; refine told [0, 1, 2, 3] (b.clear j).heap (.b true) (by simp [BB.heap, BB.clear, e0, e1, e2, h, h'] <;> fail) (by decide) (by simp [-List.map_map, embAt, nm, AObj.ren, renL, Val.ren, BB.heap, BB.clear, e0, e1, e2, h, h']) (by simp [-List.map_map, wfAll, AObj.wf, wfL, Val.wf, BB.heap, BB.clear, e0, e1, e2, h, h']) (by simp [BB.heap, BB.clear, e0, e1, e2, h, h']) rfl (by simp [-List.map_map, Val.wf, wfL, BB.heap, BB.clear, e0, e1, e2, h, h']) (by simp [-List.map_map, Val.ren, renL, nm, BB.heap, BB.clear, e0, e1, e2, h, h']) ?_) | (refine told [0, 1, 2, 3, 4] (b.clear j).heap (.b true) (by simp [BB.heap, BB.clear, e0, e1, e2, h, h'] <;> fail) (by decide) (by simp [-List.map_map, embAt, nm, AObj.ren, renL, Val.ren, BB.heap, BB.clear, e0, e1, e2, h, h']) (by simp [-List.map_map, wfAll, AObj.wf, wfL, Val.wf, BB.heap, BB.clear, e0, e1, e2, h, h']) (by simp [BB.heap, BB.clear, e0, e1, e2, h, h']) rfl (by simp [-List.map_map, Val.wf, wfL, BB.heap, BB.clear, e0, e1, e2, h, h']) (by simp [-List.map_map, Val.ren, renL, nm, BB.heap, BB.clear, e0, e1, e2, h, h']) ?_))
                      exact .inl ⟨hhas, rfl, by rw [Int.toNat_natCast]⟩)
             · have e1 := up_clear1 (up b.p) (j / 64) z1
               have f1 : (((word (upd (up b.p) (j / 64) false) ((j / 64) / 64) : Nat) : Int) != 0) = true := by simpa using z1
               (have g0 := Wd_get; have g1 := Wd_len; have g2 := Wd_wr; have g3 := f1; refine GG4 ?_; clear g0 g1 g2 g3)
               (first | (have _s : _ ≤ 64 := of_eq_true h; refine told [0, 1, 2] (b.clear j).heap (.b true) (by simp [BB.heap, BB.clear, e0, e1, h, h'] <;> fail) (by decide) (by simp [-List.map_map, embAt, nm, AObj.ren, renL, Val.ren, BB.heap, BB.clear, e0, e1, h, h']) (by simp [-List.map_map, wfAll, AObj.wf, wfL, Val.wf, BB.heap, BB.clear, e0, e1, h, h']) (by simp [BB.heap, BB.clear, e0, e1, h, h']) rfl (by simp [-List.map_map, Val.wf, wfL, BB.heap, BB.clear, e0, e1, h, h']) (by simp [-List.map_map, Val.ren, renL, nm, BB.heap, BB.clear, e0, e1, h, h']) ?_) | (have _s : _ ≤ 4096 := of_eq_true h'; refine told [0, 1, 2, 3] (b.clear j).heap (.b true) (by simp [BB.heap, BB.clear, e0, e1, h, h'] <;> fail) (by decide) (by simp [-List.map_map, embAt, nm, AObj.ren, renL, Val.ren, BB.heap, BB.clear, e0, e1, h, h']) (by simp [-List.map_map, wfAll, AObj.wf, wfL, Val.wf, BB.heap, BB.clear, e0, e1, h, h']) (by simp [BB.heap, BB.clear, e0, e1, h, h']) rfl (by simp [-List.map_map, Val.wf, wfL, BB.heap, BB.clear, e0, e1, h, h']) (by simp [-List.map_map, Val.ren, renL, nm, BB.heap, BB.clear, e0, e1, h, h']) ?_) | (refine told [0, 1, 2, 3, 4] (b.clear j).heap (.b true) (by simp [BB.heap, BB.clear, e0, e1, h, h'] <;> fail) (by decide) (by simp [-List.map_map, embAt, nm, AObj.ren, renL, Val.ren, BB.heap, BB.clear, e0, e1, h, h']) (by simp [-List.map_map, wfAll, AObj.wf, wfL, Val.wf, BB.heap, BB.clear, e0, e1, h, h']) (by simp [BB.heap, BB.clear, e0, e1, h, h']) rfl (by simp [-List.map_map, Val.wf, wfL, BB.heap, BB.clear, e0, e1, h, h']) (by simp [-List.map_map, Val.ren, renL, nm, BB.heap, BB.clear, e0, e1, h, h']) ?_))
               exact .inl ⟨hhas, rfl, by rw [Int.toNat_natCast]⟩)
      · have e0 := up_clear1 b.p j z0
        have f0 : (((word (upd b.p j false) (j / 64) : Nat) : Int) != 0) = true := by simpa using z0
        (have g0 := Wd_get; have g1 := Wd_len; have g2 := Wd_wr; have g3 := f0; refine GG4 ?_; clear g0 g1 g2 g3)
        (first | (have _s : _ ≤ 64 := of_eq_true h; refine told [0, 1, 2] (b.clear j).heap (.b true) (by simp [BB.heap, BB.clear, e0, h, h'] <;> fail) (by decide) (by simp [-List.map_map, embAt, nm, AObj.ren, renL, Val.ren, BB.heap, BB.clear, e0, h, h']) (by simp [-List.map_map, wfAll, AObj.wf, wfL, Val.wf, BB.heap, BB.clear, e0, h, h']) (by simp [BB.heap, BB.clear, e0, h, h']) rfl (by simp [-List.map_map, Val.wf, wfL, BB.heap, BB.clear, e0, h, h']) (by simp [-List.map_map, Val.ren, renL, nm, BB.heap, BB.clear, e0, h, h']) ?_) | (have _s : _ ≤ 4096 := of_eq_true h'; refine told [0, 1, 2, 3] (b.clear j).heap (.b true) (by simp [BB.heap, BB.clear, e0, h, h'] <;> fail) (by decide) (by simp [-List.map_map, embAt, nm, AObj.ren, renL, Val.ren, BB.heap, BB.clear, e0, h, h']) (by simp [-List.map_map, wfAll, AObj.wf, wfL, Val.wf, BB.heap, BB.clear, e0, h, h']) (by simp [BB.heap, BB.clear, e0, h, h']) rfl (by simp [-List.map_map, Val.wf, wfL, BB.heap, BB.clear, e0, h, h']) (by simp [-List.map_map, Val.ren, renL, nm, BB.heap, BB.clear, e0, h, h']) ?_) | (refine told [0, 1, 2, 3, 4] (b.clear j).heap (.b true) (by simp [BB.heap, BB.clear, e0, h, h'] <;> fail) (by decide) (by simp [-List.map_map, embAt, nm, AObj.ren, renL, Val.ren, BB.heap, BB.clear, e0, h, h']) (by simp [-List.map_map, wfAll, AObj.wf, wfL, Val.wf, BB.heap, BB.clear, e0, h, h']) (by simp [BB.heap, BB.clear, e0, h, h']) rfl (by simp [-List.map_map, Val.wf, wfL, BB.heap, BB.clear, e0, h, h']) (by simp [-List.map_map, Val.ren, renL, nm, BB.heap, BB.clear, e0, h, h']) ?_))
        exact .inl ⟨hhas, rfl, by rw [Int.toNat_natCast]⟩
end Go.Proofs.YtmdilnelogechaaDoor.IR
namespace Go.Proofs.YtmdilnelogechaaDoor.IR
open Go Go.Proofs.YtmdilnelogechaaDoor.Ev
set_option linter.unusedSimpArgs false
set_option linter.unusedVariables false
set_option maxHeartbeats 4000000
attribute [local go_sem] skipV nc0 nc1 nc2 nc3 bne_self_eq_false decide_true decide_false IOp.step Opd.ev Env.get initEnv Val.cells? Val.one List.all_cons List.all_nil Bool.and_true Bool.and_self Bool.true_and bin_shr6 bin_rem bin_shrw bin_shl1 bin_shl6 bin_and1 bin_or bin_andNot bitN_eq bin_quo bin_mul bin_add bin_sub bin_lss bin_leq bin_gtr bin_geq bin_eql bin_neq eqv Val.kindNo lenNo_s lenNo_nils lenNo_sl lenNo_nilm lenNo_m lenOf_s lenOf_nils lenOf_sl lenOf_nilm unary mxs mx2 partsOf padTo List.foldl_cons List.foldl_nil wr_nil wr_step wr_zero List.set_cons_zero List.set_cons_succ List.map_cons List.map_nil z1 z2 Nat.succ_ne_zero List.length_cons List.length_nil List.cons_append List.nil_append List.append_nil List.getElem?_cons_zero List.getElem?_cons_succ List.getElem?_nil Option.map_some Option.map_none Nat.zero_add Nat.add_zero List.drop_zero List.drop_succ_cons List.take_succ_cons List.take_zero List.take_nil and_self and_true true_and Nat.le_refl Bool.not_true Bool.not_false Option.getD_some window Val.slen bnd resV resL RV.val Bool.false_eq_true BEq.rfl Bool.true_beq Bool.false_beq beq_true beq_false mk_one ite_true ite_false eqc ceqs ceq
attribute [local go_sem] Int.toNat_natCast Nat.mul_one
attribute [local simp] Wd_ren Wd_wf
theorem down0_c (b : BB) (a : Nat) : SoundM Tryd.prog b.m 73 [.p 0 0, .i .i64 0, .i .i64 a] b.heap (fun v H' => v = .i .i64 a ∧ H' = b.heap) := by
  rcases b.shape with ⟨h, h'⟩ | ⟨h, h'⟩ | ⟨h, h'⟩
  all_goals
    conv => arg 2; simp only [BB.m, h, h', if_true, if_false]
    refine sound_told (sound_func Tryd.func73 c73 rfl (by simp [BB.heap, h, h']) ?_)
    simp only [e73, s73]
    conv => arg 6; simp only [BB.heap, h, h', if_true, if_false]
    refine GG0 ?_
    refine ei_unroll 1 (unr ?_)
    refine GG0 ?_
    (first | (have _s : _ ≤ 64 := of_eq_true h; refine told [0, 1, 2] b.heap (.i .i64 a) (by simp [BB.heap, h, h'] <;> fail) (by decide) (by simp [-List.map_map, embAt, nm, AObj.ren, renL, Val.ren, BB.heap, h, h']) (by simp [-List.map_map, wfAll, AObj.wf, wfL, Val.wf, BB.heap, h, h']) (by simp [BB.heap, h, h']) rfl (by simp [-List.map_map, Val.wf, wfL, BB.heap, h, h']) (by simp [-List.map_map, Val.ren, renL, nm, BB.heap, h, h']) ?_) | (have _s : _ ≤ 4096 := of_eq_true h'; refine told [0, 1, 2, 3] b.heap (.i .i64 a) (by simp [BB.heap, h, h'] <;> fail) (by decide) (by simp [-List.map_map, embAt, nm, AObj.ren, renL, Val.ren, BB.heap, h, h']) (by simp [-List.map_map, wfAll, AObj.wf, wfL, Val.wf, BB.heap, h, h']) (by simp [BB.heap, h, h']) rfl (by simp [-List.map_map, Val.wf, wfL, BB.heap, h, h']) (by simp [-List.map_map, Val.ren, renL, nm, BB.heap, h, h']) ?_) | (refine told [0, 1, 2, 3, 4] b.heap (.i .i64 a) (by simp [BB.heap, h, h'] <;> fail) (by decide) (by simp [-List.map_map, embAt, nm, AObj.ren, renL, Val.ren, BB.heap, h, h']) (by simp [-List.map_map, wfAll, AObj.wf, wfL, Val.wf, BB.heap, h, h']) (by simp [BB.heap, h, h']) rfl (by simp [-List.map_map, Val.wf, wfL, BB.heap, h, h']) (by simp [-List.map_map, Val.ren, renL, nm, BB.heap, h, h']) ?_))
    exact ⟨rfl, rfl⟩
theorem down1_c (b : BB) (hb : b.ok) (hs : ¬ b.n ≤ 64) (a : Nat) (ha : a < b.L) : SoundM Tryd.prog b.m 73 [.p 0 0, .i .i64 1, .i .i64 a] b.heap (fun v H' => v = .i .i64 ((64 * a + Lib.ctz 64 (word b.p a) : Nat) : Int) ∧ H' = b.heap) := by
  have hn1 := hb.n1
  have hL := hb.L
  have hw := word_lt b.p a
  have hc := ctz_le _ hw
  rcases b.shape with ⟨h, h'⟩ | ⟨h, h'⟩ | ⟨h, h'⟩
  · exact absurd (of_eq_true h) hs
  all_goals
    conv => arg 2; simp only [BB.m, h, h', if_true, if_false]
    refine sound_told (sound_func Tryd.func73 c73 rfl (by simp [BB.heap, h, h']) ?_)
    simp only [e73, s73]
    conv => arg 6; simp only [BB.heap, h, h', if_true, if_false]
    refine GG0 ?_
    refine ei_unroll 2 (unr ?_)
    (have g0 := Wd_get; refine GG1 ?_; clear g0)
    (first | ((with_reducible apply RunP.call); (· (simp only [go_sem, reduceIte, Nat.reduceEqDiff]; (try with_reducible exact rfl))); (· (simp only [go_sem, reduceIte, Nat.reduceEqDiff]; (try with_reducible exact rfl)))) | ((with_reducible apply Run.call); (· (simp only [go_sem, reduceIte, Nat.reduceEqDiff]; (try with_reducible exact rfl))); (· (simp only [go_sem, reduceIte, Nat.reduceEqDiff]; (try with_reducible exact rfl)))) | ((with_reducible apply Run.callY); (· (simp only [go_sem, reduceIte, Nat.reduceEqDiff]; (try with_reducible exact rfl))); (· (simp only [go_sem, reduceIte, Nat.reduceEqDiff]; (try with_reducible exact rfl))); (· (simp only [go_sem, reduceIte, Nat.reduceEqDiff]; (try with_reducible exact rfl)))) | ((with_reducible apply RunP.callY); (· (simp only [go_sem, reduceIte, Nat.reduceEqDiff]; (try with_reducible exact rfl))); (· (simp only [go_sem, reduceIte, Nat.reduceEqDiff]; (try with_reducible exact rfl))); (· (simp only [go_sem, reduceIte, Nat.reduceEqDiff]; (try with_reducible exact rfl)))) | ((with_reducible apply Run.call0); (· (simp only [go_sem, reduceIte, Nat.reduceEqDiff]; (try with_reducible exact rfl))); (· (simp only [go_sem, reduceIte, Nat.reduceEqDiff]; (try with_reducible exact rfl)))))
    refine (tz_c _ (by omega) (by omega) _).mono ?_
    rintro v H' ⟨rfl, rfl⟩
    rw [Int.toNat_natCast]
    (have g0 := addn; refine GG1 ?_; clear g0)
    refine unr ?_
    refine GG0 ?_
    (first | (have _s : _ ≤ 64 := of_eq_true h; refine told [0, 1, 2] b.heap (.i .i64 ((64 * a + Lib.ctz 64 (word b.p a) : Nat) : Int)) (by simp [BB.heap, h, h'] <;> fail) (by decide) (by simp [-List.map_map, embAt, nm, AObj.ren, renL, Val.ren, BB.heap, h, h']) (by simp [-List.map_map, wfAll, AObj.wf, wfL, Val.wf, BB.heap, h, h']) (by simp [BB.heap, h, h']) rfl (by simp [-List.map_map, Val.wf, wfL, BB.heap, h, h']) (by simp [-List.map_map, Val.ren, renL, nm, BB.heap, h, h']) ?_) | (have _s : _ ≤ 4096 := of_eq_true h'; refine told [0, 1, 2, 3] b.heap (.i .i64 ((64 * a + Lib.ctz 64 (word b.p a) : Nat) : Int)) (by simp [BB.heap, h, h'] <;> fail) (by decide) (by simp [-List.map_map, embAt, nm, AObj.ren, renL, Val.ren, BB.heap, h, h']) (by simp [-List.map_map, wfAll, AObj.wf, wfL, Val.wf, BB.heap, h, h']) (by simp [BB.heap, h, h']) rfl (by simp [-List.map_map, Val.wf, wfL, BB.heap, h, h']) (by simp [-List.map_map, Val.ren, renL, nm, BB.heap, h, h']) ?_) | (refine told [0, 1, 2, 3, 4] b.heap (.i .i64 ((64 * a + Lib.ctz 64 (word b.p a) : Nat) : Int)) (by simp [BB.heap, h, h'] <;> fail) (by decide) (by simp [-List.map_map, embAt, nm, AObj.ren, renL, Val.ren, BB.heap, h, h']) (by simp [-List.map_map, wfAll, AObj.wf, wfL, Val.wf, BB.heap, h, h']) (by simp [BB.heap, h, h']) rfl (by simp [-List.map_map, Val.wf, wfL, BB.heap, h, h']) (by simp [-List.map_map, Val.ren, renL, nm, BB.heap, h, h']) ?_))
    exact ⟨rfl, rfl⟩
theorem down2_c (b : BB) (hb : b.ok) (hs : ¬ b.n ≤ 4096) (a : Nat) (ha : a < b.M) (ha2 : 64 * a + Lib.ctz 64 (word (up b.p) a) < b.L) : SoundM Tryd.prog b.m 73 [.p 0 0, .i .i64 2, .i .i64 a] b.heap (fun v H' => v = .i .i64 ((64 * (64 * a + Lib.ctz 64 (word (up b.p) a)) + Lib.ctz 64 (word b.p (64 * a + Lib.ctz 64 (word (up b.p) a))) : Nat) : Int) ∧ H' = b.heap) := by
  have hn1 := hb.n1
  have hL := hb.L
  have hM := hb.M
  have hw := word_lt (up b.p) a
  have hc := ctz_le _ hw
  have hw2 := word_lt b.p (64 * a + Lib.ctz 64 (word (up b.p) a))
  have hc2 := ctz_le _ hw2
  rcases b.shape with ⟨h, h'⟩ | ⟨h, h'⟩ | ⟨h, h'⟩
  · exact absurd (Nat.le_trans (of_eq_true h) (by decide)) hs
  · exact absurd (of_eq_true h') hs
  all_goals
    conv => arg 2; simp only [BB.m, h, h', if_true, if_false]
    refine sound_told (sound_func Tryd.func73 c73 rfl (by simp [BB.heap, h, h']) ?_)
    simp only [e73, s73]
    conv => arg 6; simp only [BB.heap, h, h', if_true, if_false]
    refine GG0 ?_
    refine ei_unroll 3 (unr ?_)
    (have g0 := Wd_get; refine GG1 ?_; clear g0)
    (first | ((with_reducible apply RunP.call); (· (simp only [go_sem, reduceIte, Nat.reduceEqDiff]; (try with_reducible exact rfl))); (· (simp only [go_sem, reduceIte, Nat.reduceEqDiff]; (try with_reducible exact rfl)))) | ((with_reducible apply Run.call); (· (simp only [go_sem, reduceIte, Nat.reduceEqDiff]; (try with_reducible exact rfl))); (· (simp only [go_sem, reduceIte, Nat.reduceEqDiff]; (try with_reducible exact rfl)))) | ((with_reducible apply Run.callY); (· (simp only [go_sem, reduceIte, Nat.reduceEqDiff]; (try with_reducible exact rfl))); (· (simp only [go_sem, reduceIte, Nat.reduceEqDiff]; (try with_reducible exact rfl))); (· (simp only [go_sem, reduceIte, Nat.reduceEqDiff]; (try with_reducible exact rfl)))) | ((with_reducible apply RunP.callY); (· (simp only [go_sem, reduceIte, Nat.reduceEqDiff]; (try with_reducible exact rfl))); (· (simp only [go_sem, reduceIte, Nat.reduceEqDiff]; (try with_reducible exact rfl))); (· (simp only [go_sem, reduceIte, Nat.reduceEqDiff]; (try with_reducible exact rfl)))) | ((with_reducible apply Run.call0); (· (simp only [go_sem, reduceIte, Nat.reduceEqDiff]; (try with_reducible exact rfl))); (· (simp only [go_sem, reduceIte, Nat.reduceEqDiff]; (try with_reducible exact rfl)))))
    refine (tz_c _ (by omega) (by omega) _).mono ?_
    rintro v H' ⟨rfl, rfl⟩
    rw [Int.toNat_natCast]
    (have g0 := addn; refine GG1 ?_; clear g0)
    refine unr ?_
    (have g0 := Wd_get; refine GG1 ?_; clear g0)
    (first | ((with_reducible apply RunP.call); (· (simp only [go_sem, reduceIte, Nat.reduceEqDiff]; (try with_reducible exact rfl))); (· (simp only [go_sem, reduceIte, Nat.reduceEqDiff]; (try with_reducible exact rfl)))) | ((with_reducible apply Run.call); (· (simp only [go_sem, reduceIte, Nat.reduceEqDiff]; (try with_reducible exact rfl))); (· (simp only [go_sem, reduceIte, Nat.reduceEqDiff]; (try with_reducible exact rfl)))) | ((with_reducible apply Run.callY); (· (simp only [go_sem, reduceIte, Nat.reduceEqDiff]; (try with_reducible exact rfl))); (· (simp only [go_sem, reduceIte, Nat.reduceEqDiff]; (try with_reducible exact rfl))); (· (simp only [go_sem, reduceIte, Nat.reduceEqDiff]; (try with_reducible exact rfl)))) | ((with_reducible apply RunP.callY); (· (simp only [go_sem, reduceIte, Nat.reduceEqDiff]; (try with_reducible exact rfl))); (· (simp only [go_sem, reduceIte, Nat.reduceEqDiff]; (try with_reducible exact rfl))); (· (simp only [go_sem, reduceIte, Nat.reduceEqDiff]; (try with_reducible exact rfl)))) | ((with_reducible apply Run.call0); (· (simp only [go_sem, reduceIte, Nat.reduceEqDiff]; (try with_reducible exact rfl))); (· (simp only [go_sem, reduceIte, Nat.reduceEqDiff]; (try with_reducible exact rfl)))))
    refine (tz_c _ (by omega) (by omega) _).mono ?_
    rintro v H' ⟨rfl, rfl⟩
    rw [Int.toNat_natCast]
    (have g0 := addn; refine GG1 ?_; clear g0)
    refine unr ?_
    refine GG0 ?_
    (first | (have _s : _ ≤ 64 := of_eq_true h; refine told [0, 1, 2] b.heap (.i .i64 ((64 * (64 * a + Lib.ctz 64 (word (up b.p) a)) + Lib.ctz 64 (word b.p (64 * a + Lib.ctz 64 (word (up b.p) a))) : Nat) : Int)) (by simp [BB.heap, h, h'] <;> fail) (by decide) (by simp [-List.map_map, embAt, nm, AObj.ren, renL, Val.ren, BB.heap, h, h']) (by simp [-List.map_map, wfAll, AObj.wf, wfL, Val.wf, BB.heap, h, h']) (by simp [BB.heap, h, h']) rfl (by simp [-List.map_map, Val.wf, wfL, BB.heap, h, h']) (by simp [-List.map_map, Val.ren, renL, nm, BB.heap, h, h']) ?_) | (have _s : _ ≤ 4096 := of_eq_true h'; refine told [0, 1, 2, 3] b.heap (.i .i64 ((64 * (64 * a + Lib.ctz 64 (word (up b.p) a)) + Lib.ctz 64 (word b.p (64 * a + Lib.ctz 64 (word (up b.p) a))) : Nat) : Int)) (by simp [BB.heap, h, h'] <;> fail) (by decide) (by simp [-List.map_map, embAt, nm, AObj.ren, renL, Val.ren, BB.heap, h, h']) (by simp [-List.map_map, wfAll, AObj.wf, wfL, Val.wf, BB.heap, h, h']) (by simp [BB.heap, h, h']) rfl (by simp [-List.map_map, Val.wf, wfL, BB.heap, h, h']) (by simp [-List.map_map, Val.ren, renL, nm, BB.heap, h, h']) ?_) | (refine told [0, 1, 2, 3, 4] b.heap (.i .i64 ((64 * (64 * a + Lib.ctz 64 (word (up b.p) a)) + Lib.ctz 64 (word b.p (64 * a + Lib.ctz 64 (word (up b.p) a))) : Nat) : Int)) (by simp [BB.heap, h, h'] <;> fail) (by decide) (by simp [-List.map_map, embAt, nm, AObj.ren, renL, Val.ren, BB.heap, h, h']) (by simp [-List.map_map, wfAll, AObj.wf, wfL, Val.wf, BB.heap, h, h']) (by simp [BB.heap, h, h']) rfl (by simp [-List.map_map, Val.wf, wfL, BB.heap, h, h']) (by simp [-List.map_map, Val.ren, renL, nm, BB.heap, h, h']) ?_))
    exact ⟨rfl, rfl⟩
end Go.Proofs.YtmdilnelogechaaDoor.IR
