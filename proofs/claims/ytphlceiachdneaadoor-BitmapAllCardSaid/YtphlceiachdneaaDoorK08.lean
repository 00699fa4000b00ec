/- This text of a proof shows: how many marks there are, when one is set or cleared. -/
import Derived.Test.YtphlceiachdneaaDoorB08
set_option linter.unusedVariables false
set_option linter.unusedSimpArgs false
set_option linter.constructorNameAsVariable false
namespace Go.Proofs.YtphlceiachdneaaDoor.IR
open Go Go.Proofs.YtphlceiachdneaaDoor.Ev
theorem upto_congr {p q : Nat → Bool} : ∀ {n : Nat}, (∀ j, j < n → p j = q j) → upto p n = upto q n
  | 0, _ => rfl
  | n + 1, h => by rw [upto_succ, upto_succ, h n (by omega), upto_congr fun j hj => h j (by omega)]
theorem upto_len1 {p : Nat → Bool} {i : Nat} (hp : p i = false) : ∀ {n : Nat}, i < n → (upto (upd p i true) n).length = (upto p n).length + 1
  | 0, h => by omega
  | n + 1, h => by
    rw [upto_succ, upto_succ]
    by_cases e : i = n
    · subst e
      rw [upto_congr (q := p) fun j hj => by unfold upd; rw [if_neg (by omega)]]
      simp [upd, hp]
    · have := upto_len1 hp (n := n) (by omega)
      have e2 : upd p i true n = p n := by unfold upd; rw [if_neg (by omega)]
      rw [e2]
      split <;> simp [this]
theorem upto_len0 {p : Nat → Bool} {i : Nat} (hp : p i = true) : ∀ {n : Nat}, i < n → (upto (upd p i false) n).length + 1 = (upto p n).length
  | 0, h => by omega
  | n + 1, h => by
    rw [upto_succ, upto_succ]
    by_cases e : i = n
    · subst e
      rw [upto_congr (q := p) fun j hj => by unfold upd; rw [if_neg (by omega)]]
      simp [upd, hp]
    · have := upto_len0 hp (n := n) (by omega)
      have e2 : upd p i false n = p n := by unfold upd; rw [if_neg (by omega)]
      rw [e2]
      split <;> (try simp only [List.length_append, List.length_singleton]) <;> omega
theorem upto_none0 (n : Nat) : upto (fun _ => false) n = [] := by
  have := upto_none (fun _ => false) 0 n fun _ _ _ => rfl
  rwa [Nat.zero_add] at this
/-- A bitmap of n places that is as it should be, and knows how many marks it has. -/
structure BB.good (b : BB) (n : Nat) : Prop where
  ok : b.ok
  n : b.n = n
  k : b.k = (upto b.p b.n).length
theorem good_new {n : Nat} (h1 : 1 ≤ n) (h2 : n ≤ 65536) : (BB.new n).good n := ⟨BB.new_ok n h1 h2, rfl, by show (0 : Int) = _; rw [show (BB.new n).p = fun _ => false from rfl, upto_none0]; rfl⟩
theorem BB.has_p {b : BB} {j : Nat} : b.has j = b.p j := by simp [BB.has]
theorem good_set {b : BB} {n : Nat} (h : b.good n) {i : Int} (hh : b.has i = false) (h0 : 0 ≤ i) (h1 : i < b.n) : (b.set i.toNat).good n := by
  obtain ⟨j, rfl⟩ : ∃ j : Nat, i = j := ⟨i.toNat, by omega⟩
  rw [BB.has_p] at hh
  have hj : j < b.n := by omega
  rw [Int.toNat_natCast]
  have hc := upto_len1 hh hj
  have hk : (b.set j).k = (upto (b.set j).p (b.set j).n).length := by
    show b.k + 1 = ((upto (upd b.p j true) b.n).length : Int)
    rw [hc, h.k]; omega
  have hl := upto_len (b.set j).p (b.set j).n
  have hn : (b.set j).n = b.n := rfl
  have hn1 := h.ok.n1
  exact ⟨⟨h.ok.n0, h.ok.n1, h.ok.below.upd hj true, h.ok.L, h.ok.M, by rw [hk]; omega, by rw [hk]; omega⟩, h.n, hk⟩
theorem good_clear {b : BB} {n : Nat} (h : b.good n) {i : Int} (hh : b.has i = true) : (b.clear i.toNat).good n := by
  obtain ⟨h0, h1⟩ := BB.has_in h.ok hh
  obtain ⟨j, rfl⟩ : ∃ j : Nat, i = j := ⟨i.toNat, by omega⟩
  rw [BB.has_p] at hh
  have hj : j < b.n := by omega
  rw [Int.toNat_natCast]
  have hc := upto_len0 hh hj
  have hk : (b.clear j).k = (upto (b.clear j).p (b.clear j).n).length := by
    show b.k - 1 = ((upto (upd b.p j false) b.n).length : Int)
    rw [h.k]; omega
  have hl := upto_len (b.clear j).p (b.clear j).n
  have hn : (b.clear j).n = b.n := rfl
  have hn1 := h.ok.n1
  exact ⟨⟨h.ok.n0, h.ok.n1, h.ok.below.upd hj false, h.ok.L, h.ok.M, by rw [hk]; omega, by rw [hk]; omega⟩, h.n, hk⟩
theorem good_pos {b : BB} {n : Nat} (h : b.good n) {i : Int} (hh : b.has i = true) : 1 ≤ b.k := by
  have := (good_clear h hh).ok.k0
  have e : (b.clear i.toNat).k = b.k - 1 := rfl
  omega
end Go.Proofs.YtphlceiachdneaaDoor.IR
