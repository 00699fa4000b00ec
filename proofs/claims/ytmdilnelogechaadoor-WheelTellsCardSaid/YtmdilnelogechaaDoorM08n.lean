/- This text of a proof shows: words of marks, the floor above them, and the least mark from a place on, in plain numbers. -/
import Derived.Lib.TrailingZeros
import Derived.Test.YtmdilnelogechaaDoorGg
import Derived.Test.YtmdilnelogechaaDoorEvE
set_option linter.unusedVariables false
set_option linter.unusedSimpArgs false
set_option linter.constructorNameAsVariable false
namespace Go.Proofs.YtmdilnelogechaaDoor.IR
open Go
set_option linter.unusedVariables false
set_option linter.unusedSimpArgs false
/-- n marks from the place a on, as a number's bits. -/
def wsum (p : Nat → Bool) : Nat → Nat → Nat
  | _, 0 => 0
  | a, n + 1 => (if p a = true then 1 else 0) + 2 * wsum p (a + 1) n
def word (p : Nat → Bool) (j : Nat) : Nat := wsum p (64 * j) 64
def up (p : Nat → Bool) (j : Nat) : Bool := word p j != 0
def upd (p : Nat → Bool) (i : Nat) (v : Bool) : Nat → Bool := fun k => if k = i then v else p k
theorem wsum_lt (p : Nat → Bool) : ∀ a n, wsum p a n < 2 ^ n
  | _, 0 => by simp [wsum]
  | a, n + 1 => by
    have := wsum_lt p (a + 1) n
    rw [Nat.pow_succ]; unfold wsum
    split <;> omega
theorem wsum_bit (p : Nat → Bool) : ∀ a n b, (wsum p a n).testBit b = (decide (b < n) && p (a + b))
  | a, 0, b => by simp [wsum]
  | a, n + 1, 0 => by
    unfold wsum
    rw [Nat.testBit_zero]
    cases h : p a <;> simp [h] <;> omega
  | a, n + 1, b + 1 => by
    unfold wsum
    rw [Nat.testBit_succ]
    have e : ((if p a = true then 1 else 0) + 2 * wsum p (a + 1) n) / 2 = wsum p (a + 1) n := by split <;> omega
    rw [e, wsum_bit p (a + 1) n b]
    have e2 : a + 1 + b = a + (b + 1) := by omega
    rw [e2]
    simp
theorem word_lt (p : Nat → Bool) (j : Nat) : word p j < 18446744073709551616 := wsum_lt p _ 64
theorem word_bit (p : Nat → Bool) (j b : Nat) : (word p j).testBit b = (decide (b < 64) && p (64 * j + b)) := wsum_bit p _ 64 b
theorem word_zero {p : Nat → Bool} {j : Nat} : word p j = 0 ↔ ∀ b, b < 64 → p (64 * j + b) = false := by
  constructor
  · intro h b hb
    have := word_bit p j b
    rw [h, Nat.zero_testBit] at this
    simpa [hb] using this.symm
  · intro h
    apply Nat.eq_of_testBit_eq
    intro b
    rw [Nat.zero_testBit, word_bit]
    by_cases hb : b < 64
    · rw [h b hb]; simp
    · simp [hb]
theorem up_true {p : Nat → Bool} {i : Nat} (h : p i = true) : up p (i / 64) = true := by
  unfold up
  rw [bne_iff_ne]
  intro hz
  have := word_zero.1 hz (i % 64) (by omega)
  have e : 64 * (i / 64) + i % 64 = i := by omega
  rw [e, h] at this; exact Bool.noConfusion this
theorem word_set (p : Nat → Bool) (i : Nat) : word (upd p i true) (i / 64) = word p (i / 64) ||| 2 ^ (i % 64) := by
  apply Nat.eq_of_testBit_eq
  intro b
  rw [word_bit, Nat.testBit_or, word_bit, Nat.testBit_two_pow]
  unfold upd
  by_cases hb : b < 64
  · by_cases e : 64 * (i / 64) + b = i
    · have e2 : i % 64 = b := by omega
      simp [hb, e, e2]
    · have e2 : ¬ i % 64 = b := by omega
      simp [hb, e, e2]
  · have e2 : ¬ i % 64 = b := by omega
    simp [hb, e2]
theorem word_other (p : Nat → Bool) (i j : Nat) (v : Bool) (h : j ≠ i / 64) : word (upd p i v) j = word p j := by
  apply Nat.eq_of_testBit_eq
  intro b
  rw [word_bit, word_bit]
  unfold upd
  by_cases hb : b < 64
  · have e : ¬ 64 * j + b = i := by omega
    simp [e]
  · simp [hb]
theorem up_set (p : Nat → Bool) (i : Nat) : up (upd p i true) = upd (up p) (i / 64) true := by
  funext j
  by_cases h : j = i / 64
  · subst h
    have : up (upd p i true) (i / 64) = true := up_true (by simp [upd])
    rw [this]; simp [upd]
  · show (word (upd p i true) j != 0) = _
    rw [word_other p i j true h]
    simp only [upd, if_neg h]; rfl
theorem up_clear0 (p : Nat → Bool) (i : Nat) (h : word (upd p i false) (i / 64) = 0) : up (upd p i false) = upd (up p) (i / 64) false := by
  funext j
  by_cases hj : j = i / 64
  · subst hj
    show (word (upd p i false) (i / 64) != 0) = _
    rw [h]; simp [upd]
  · show (word (upd p i false) j != 0) = _
    rw [word_other p i j false hj]
    simp only [upd, if_neg hj]; rfl
theorem up_clear1 (p : Nat → Bool) (i : Nat) (h : word (upd p i false) (i / 64) ≠ 0) : up (upd p i false) = up p := by
  funext j
  by_cases hj : j = i / 64
  · subst hj
    show (word (upd p i false) (i / 64) != 0) = (word p (i / 64) != 0)
    have h2 : word p (i / 64) ≠ 0 := by
      intro hz
      apply h
      apply word_zero.2
      intro b hb
      have := word_zero.1 hz b hb
      unfold upd; split <;> simp [this]
    rw [bne_iff_ne.2 h, bne_iff_ne.2 h2]
  · show (word (upd p i false) j != 0) = (word p j != 0)
    rw [word_other p i j false hj]
/-- The number's lowest bit. -/
theorem ctz_spec {x : Nat} (h0 : x ≠ 0) (h : x < 18446744073709551616) : Lib.ctz 64 x < 64 ∧ x.testBit (Lib.ctz 64 x) = true ∧ ∀ b, b < Lib.ctz 64 x → x.testBit b = false := by
  unfold Lib.ctz
  rw [if_neg h0]
  obtain ⟨m, hm, hk⟩ := Lib.ctzFrom_spec 64 x (by omega) h
  generalize Lib.ctzFrom 64 x = k at hm hk
  subst hm
  refine ⟨hk, ?_, ?_⟩
  · rw [Nat.mul_comm, Nat.testBit_mul_two_pow]
    simp
  · intro b hb
    rw [Nat.mul_comm, Nat.testBit_mul_two_pow]
    have : ¬ k ≤ b := by omega
    simp [this]
structure Least (p : Nat → Bool) (a i : Nat) : Prop where
  is : p i = true
  ge : a ≤ i
  le : ∀ j, a ≤ j → j < i → p j = false
theorem Least.uniq {p : Nat → Bool} {a i k : Nat} (h : Least p a i) (g : Least p a k) : i = k := by
  rcases Nat.lt_trichotomy i k with e | e | e
  · have := g.le i h.ge e; rw [h.is] at this; exact Bool.noConfusion this
  · exact e
  · have := h.le k g.ge e; rw [g.is] at this; exact Bool.noConfusion this
theorem shift_bit (p : Nat → Bool) (a b : Nat) : (word p (a / 64) / 2 ^ (a % 64)).testBit b = (decide (a % 64 + b < 64) && p (a + b)) := by
  rw [Nat.testBit_div_two_pow, word_bit]
  have e1 : a % 64 + b = b + a % 64 := by omega
  have e2 : 64 * (a / 64) + (b + a % 64) = a + b := by omega
  rw [e2, e1]
theorem shift_lt (p : Nat → Bool) (a : Nat) : word p (a / 64) / 2 ^ (a % 64) < 18446744073709551616 := Nat.lt_of_le_of_lt (Nat.div_le_self _ _) (word_lt p _)
theorem least_word (p : Nat → Bool) (a : Nat) (h : word p (a / 64) / 2 ^ (a % 64) ≠ 0) : Least p a (a + Lib.ctz 64 (word p (a / 64) / 2 ^ (a % 64))) ∧ Lib.ctz 64 (word p (a / 64) / 2 ^ (a % 64)) < 64 := by
  obtain ⟨h1, h2, h3⟩ := ctz_spec h (shift_lt p a)
  rw [shift_bit, Bool.and_eq_true] at h2
  have h4 := of_decide_eq_true h2.1
  refine ⟨⟨h2.2, by omega, fun j hj hj2 => ?_⟩, h1⟩
  have := h3 (j - a) (by omega)
  rw [shift_bit] at this
  have e : a + (j - a) = j := by omega
  rw [e] at this
  have e2 : decide (a % 64 + (j - a) < 64) = true := decide_eq_true (by omega)
  rw [e2] at this
  simpa using this
theorem none_word (p : Nat → Bool) (a : Nat) (h : word p (a / 64) / 2 ^ (a % 64) = 0) (j : Nat) (hj : a ≤ j) (hj2 : j < 64 * (a / 64 + 1)) : p j = false := by
  have := shift_bit p a (j - a)
  rw [h, Nat.zero_testBit] at this
  have e : a + (j - a) = j := by omega
  rw [e] at this
  have e2 : decide (a % 64 + (j - a) < 64) = true := decide_eq_true (by omega)
  rw [e2] at this
  simpa using this.symm
theorem least_down (p : Nat → Bool) (i : Nat) (h : up p i = true) : Least p (64 * i) (64 * i + Lib.ctz 64 (word p i)) ∧ Lib.ctz 64 (word p i) < 64 := by
  have h' : word p i ≠ 0 := by unfold up at h; rwa [bne_iff_ne] at h
  have e1 : (64 * i) / 64 = i := by omega
  have e2 : (64 * i) % 64 = 0 := by omega
  have := least_word p (64 * i) (by rw [e1, e2]; simpa using h')
  rw [e1, e2] at this
  simpa using this
theorem least_comb {p : Nat → Bool} {at' a i : Nat} (h : Least (up p) a i) (hn : ∀ j, p j = true → at' ≤ j → 64 * a ≤ j) (ha : at' ≤ 64 * a) : Least p at' (64 * i + Lib.ctz 64 (word p i)) := by
  obtain ⟨⟨d1, d2, d3⟩, d4⟩ := least_down p i h.is
  have hge := h.ge
  refine ⟨d1, by omega, fun j hj hj2 => ?_⟩
  cases e : p j with
  | false => rfl
  | true =>
    have k1 := hn j e hj
    have k2 := up_true e
    have k3 : i ≤ j / 64 := by
      apply Nat.le_of_not_lt
      intro hlt
      have := h.le (j / 64) (by omega) hlt
      rw [k2] at this; exact Bool.noConfusion this
    have := d3 j (by omega) hj2
    rw [e] at this; exact this
/-- Nothing is marked from n on. -/
def Below (p : Nat → Bool) (n : Nat) : Prop := ∀ j, n ≤ j → p j = false
theorem Below.up {p : Nat → Bool} {n : Nat} (h : Below p n) : Below (up p) ((n + 63) / 64) := by
  intro j hj
  unfold IR.up
  have : word p j = 0 := word_zero.2 fun b hb => h _ (by omega)
  rw [this]; rfl
theorem Below.upd {p : Nat → Bool} {n : Nat} (h : Below p n) {i : Nat} (hi : i < n) (v : Bool) : Below (upd p i v) n := by
  intro j hj
  unfold IR.upd
  rw [if_neg (by omega)]; exact h j hj
theorem wrap_u64n (n : Nat) (h : n < 18446744073709551616) : IntKind.u64.wrap (n : Int) = n := by
  have : IntKind.u64.wrap (n : Int) = (n : Int) % 18446744073709551616 := by simp [IntKind.wrap, IntKind.signed, IntKind.bits]
  rw [this]; omega
theorem ofInt_nat (a : Nat) (ha : a < 18446744073709551616) : (BitVec.ofInt 64 (a : Int)).toNat = a := by
  rw [BitVec.ofInt_natCast, BitVec.toNat_ofNat]; exact Nat.mod_eq_of_lt (by omega)
theorem or_word (p : Nat → Bool) (i : Nat) : IntKind.u64.wrap ((BitVec.ofInt (IntKind.bits .u64) ((word p (i / 64) : Nat) : Int) ||| BitVec.ofInt (IntKind.bits .u64) ((2 ^ (i % 64) : Nat) : Int)).toNat : Int) = ((word (upd p i true) (i / 64) : Nat) : Int) := by
  have hp : 2 ^ (i % 64) < 18446744073709551616 := Nat.lt_of_lt_of_le (Nat.pow_lt_pow_right (by decide) (by omega : i % 64 < 64)) (by decide)
  show IntKind.u64.wrap ((BitVec.ofInt 64 _ ||| BitVec.ofInt 64 _).toNat : Int) = _
  rw [BitVec.toNat_or, ofInt_nat _ (word_lt p _), ofInt_nat _ hp, ← word_set]
  exact wrap_u64n _ (word_lt _ _)
theorem andNot_word (p : Nat → Bool) (i : Nat) : IntKind.u64.wrap ((BitVec.ofInt (IntKind.bits .u64) ((word p (i / 64) : Nat) : Int) &&& ~~~ BitVec.ofInt (IntKind.bits .u64) ((2 ^ (i % 64) : Nat) : Int)).toNat : Int) = ((word (upd p i false) (i / 64) : Nat) : Int) := by
  have hp : 2 ^ (i % 64) < 18446744073709551616 := Nat.lt_of_lt_of_le (Nat.pow_lt_pow_right (by decide) (by omega : i % 64 < 64)) (by decide)
  show IntKind.u64.wrap ((BitVec.ofInt 64 _ &&& ~~~ BitVec.ofInt 64 _).toNat : Int) = _
  have e : (BitVec.ofInt 64 ((word p (i / 64) : Nat) : Int) &&& ~~~ BitVec.ofInt 64 ((2 ^ (i % 64) : Nat) : Int)).toNat = word (upd p i false) (i / 64) := by
    apply Nat.eq_of_testBit_eq
    intro b
    rw [← BitVec.getLsbD, BitVec.getLsbD_and, BitVec.getLsbD_not, BitVec.getLsbD, BitVec.getLsbD, ofInt_nat _ (word_lt p _), ofInt_nat _ hp, word_bit, word_bit, Nat.testBit_two_pow]
    unfold upd
    by_cases hb : b < 64
    · by_cases e : 64 * (i / 64) + b = i
      · have e2 : i % 64 = b := by omega
        simp [hb, e, e2]
      · have e2 : ¬ i % 64 = b := by omega
        simp [hb, e, e2]
    · simp [hb]
  rw [e]
  exact wrap_u64n _ (word_lt _ _)
theorem and1_word (p : Nat → Bool) (i : Nat) : (IntKind.u64.wrap ((BitVec.ofInt (IntKind.bits .u64) ((word p (i / 64) / 2 ^ (i % 64) : Nat) : Int) &&& BitVec.ofInt (IntKind.bits .u64) 1).toNat : Int) == 1) = p i := by
  show (IntKind.u64.wrap ((BitVec.ofInt 64 _ &&& BitVec.ofInt 64 ((1 : Nat) : Int)).toNat : Int) == 1) = _
  rw [BitVec.toNat_and, ofInt_nat _ (shift_lt p _), ofInt_nat 1 (by decide), Nat.and_one_is_mod, wrap_u64n _ (by omega)]
  have h := shift_bit p i 0
  rw [Nat.testBit_zero] at h
  have e : decide (i % 64 + 0 < 64) = true := decide_eq_true (by omega)
  rw [e, Bool.true_and, Nat.add_zero] at h
  rw [← h]
  have : word p (i / 64) / 2 ^ (i % 64) % 2 < 2 := by omega
  generalize word p (i / 64) / 2 ^ (i % 64) % 2 = r at this
  rw [Bool.eq_iff_iff]; simp only [beq_iff_eq, decide_eq_true_eq]; omega
end Go.Proofs.YtmdilnelogechaaDoor.IR
