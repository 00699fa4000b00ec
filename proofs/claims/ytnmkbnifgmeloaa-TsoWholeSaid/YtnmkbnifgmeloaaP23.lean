/- This text of a proof shows: what is known of a packet's pieces, and of those with one left out, or two that have changed places. -/
import Derived.Test.YtnmkbnifgmeloaaQ23
set_option linter.unusedVariables false
set_option linter.unusedSimpArgs false
set_option linter.constructorNameAsVariable false
namespace Go.Proofs.Ytnmkbnifgmeloaa.IR
open Go Go.Proofs.Ytnmkbnifgmeloaa.Ev
theorem lens_form {z : Int} (hz : 1 ≤ z) : ∀ (k : Nat) (n : Int), n.toNat ≤ k → 1 ≤ n → ∃ (q : Nat) (y : Int), lens n z = List.replicate q z ++ [y] ∧ 1 ≤ y ∧ y ≤ z ∧ (0 < q → n > z) ∧ y ≤ n
  | 0, n, h, h1 => by omega
  | k + 1, n, h, h1 => by
    by_cases hn : n ≤ z
    · exact ⟨0, n, by rw [lens_pos hz (by omega), if_pos hn, lens_neg (by omega)]; rfl, h1, hn, by omega, by omega⟩
    · obtain ⟨q, y, e, h2, h3, _, h5⟩ := lens_form hz k (n - z) (by omega) (by omega)
      exact ⟨q + 1, y, by rw [lens_pos hz (by omega), if_neg hn, e]; rfl, h2, h3, fun _ => by omega, by omega⟩
theorem lens_one {z : Int} (hz : 1 ≤ z) {n y : Int} {q : Nat} (hn : 1 ≤ n) (h : lens n z = List.replicate (q + 1) z ++ [y]) : n > z ∧ lens (n - z) z = List.replicate q z ++ [y] := by
  rw [lens_pos hz (by omega)] at h
  simp only [List.replicate_succ, List.cons_append, List.cons.injEq] at h
  refine ⟨?_, h.2⟩
  by_cases hn : n ≤ z
  · rw [lens_neg (by omega)] at h
    have := h.2
    simp at this
  · omega
theorem lens_rep {z : Int} (hz : 1 ≤ z) : ∀ (q : Nat), lens ((q : Int) * z) z = List.replicate q z
  | 0 => by rw [lens_neg (by simp)]; rfl
  | q + 1 => by
    have e1 : ((q + 1 : Nat) : Int) * z = (q : Int) * z + z := by
      rw [show ((q + 1 : Nat) : Int) = (q : Int) + 1 by simp, Int.add_mul, Int.one_mul]
    have h0 : 0 ≤ (q : Int) * z := Int.mul_nonneg (by omega) (by omega)
    rw [e1, lens_pos hz (by omega), show (q : Int) * z + z - z = (q : Int) * z by omega, lens_rep hz q]
    split
    · have : (q : Int) * z = 0 := by omega
      rw [this, Int.zero_add]; rfl
    · rfl
theorem lens_sum {z : Int} (hz : 1 ≤ z) : ∀ (q : Nat) {n y : Int}, 1 ≤ n → lens n z = List.replicate q z ++ [y] → n = (q : Int) * z + y
  | 0, n, y, hn, h => by
    rw [lens_pos hz (by omega)] at h
    simp only [List.replicate_zero, List.nil_append, List.cons.injEq] at h
    by_cases c : n ≤ z
    · rw [if_pos c] at h; simp; exact h.1
    · have h2 := h.2
      rw [lens_pos hz (by omega)] at h2; simp at h2
  | q + 1, n, y, hn, h => by
    obtain ⟨h1, h2⟩ := lens_one hz hn h
    have := lens_sum hz q (by omega) h2
    rw [show ((q + 1 : Nat) : Int) = (q : Int) + 1 by simp, Int.add_mul, Int.one_mul]
    omega
theorem sums_lens (p : Pk) {z : Int} (hz : 1 ≤ z) : ∀ (k : Nat) (r a : Int), r.toNat ≤ k → 0 ≤ r → 0 ≤ a → a + r ≤ 65536 → sums ((lens r z).map p.at) a = some (a + r)
  | 0, r, a, h, h1, h2, h3 => by rw [lens_neg (by omega)]; simp [sums]; omega
  | k + 1, r, a, h, h1, h2, h3 => by
    by_cases hr : 0 < r
    · obtain ⟨x, hx⟩ : ∃ x, x = if r ≤ z then r else z := ⟨_, rfl⟩
      have hx1 : 1 ≤ x ∧ x ≤ r := by split at hx <;> omega
      rw [lens_step hz hr, ← hx]
      simp only [List.map_cons, sums, Pk.at]
      rw [if_pos (by omega)]
      have := sums_lens p hz k (r - x) (a + x) (by omega) (by omega) (by omega) (by omega)
      rw [show a + x + (r - x) = a + r by omega] at this
      exact this
    · rw [lens_neg (by omega)]; simp [sums]; omega
theorem at_at (p : Pk) (a b : Int) : (p.at a).at b = p.at b := rfl
theorem jn_lens (p : Pk) {z r : Int} (hz : 1 ≤ z) (h : 1 ≤ r ∧ r ≤ 65536) : jn ((lens r z).map p.at) z = some (p.at r) := by
  have hs := sums_lens p hz r.toNat r 0 (Nat.le_refl _) (by omega) (by omega) (by omega)
  rw [Int.zero_add] at hs
  have hl := lens_pos hz (n := r) (by omega)
  rw [hl, List.map_cons] at hs ⊢
  rw [jn_some hs, if_pos]
  · rfl
  · refine ⟨hz, ?_⟩
    show _ = (lens r z).map p.at
    rw [hl]; rfl
theorem jn_not {l : List Pk} {z : Int} (hz : 1 ≤ z) {k : Nat} {x : Pk} (hk : k + 1 < l.length) (hx : l[k]? = some x) (hne : x.2.2.1 ≠ z) : jn l z = none := by
  cases hs : sums l 0 with
  | none => exact jn_none hs
  | some s =>
    cases l with
    | nil => simp at hk
    | cons a l =>
      rw [jn_some hs, if_neg]
      rintro ⟨_, h⟩
      have hsl := sums_len (by omega) hs
      obtain ⟨q, y, e, _, _, _, _⟩ := lens_form hz s.toNat s (Nat.le_refl _) (by simp only [List.length_cons] at hsl; omega)
      have h2 : a :: l = (List.replicate q z ++ [y]).map a.at := by
        rw [h]; unfold pcs; rw [← e]; rfl
      rw [h2] at hk hx
      simp only [List.length_map, List.length_append, List.length_replicate, List.length_singleton] at hk
      rw [List.getElem?_map, List.getElem?_append_left (by simp; omega), List.getElem?_replicate, if_pos (by omega)] at hx
      simp at hx
      rw [← hx] at hne
      exact hne rfl
theorem pcs_less (p : Pk) {z y : Int} {q k : Nat} (hz : 1 ≤ z) (hn : 1 ≤ p.2.2.1) (hf : lens p.2.2.1 z = List.replicate q z ++ [y]) (hy : 1 ≤ y) (hk : k < q + 1) (hq : 0 < q) :
    ∃ x, (pcs p z)[k]? = some (p.at x) ∧ (pcs p z).take k ++ (pcs p z).drop (k + 1) = (lens (p.2.2.1 - x) z).map p.at ∧ 1 ≤ p.2.2.1 - x ∧ 1 ≤ x ∧ x = (if k < q then z else y) := by
  obtain ⟨q', rfl⟩ : ∃ q', q = q' + 1 := ⟨q - 1, by omega⟩
  have hs := lens_sum hz _ hn hf
  obtain ⟨h1, h2⟩ := lens_one hz hn hf
  have h0 : 0 ≤ (q' : Int) * z := Int.mul_nonneg (by omega) (by omega)
  rw [show ((q' + 1 : Nat) : Int) = (q' : Int) + 1 by simp, Int.add_mul, Int.one_mul] at hs
  by_cases hkq : k < q' + 1
  · refine ⟨z, ?_, ?_, by omega, hz, by rw [if_pos hkq]⟩
    · unfold pcs
      rw [hf, List.getElem?_map, List.getElem?_append_left (by simpa using hkq), List.getElem?_replicate, if_pos hkq]; rfl
    · unfold pcs
      rw [← List.map_take, ← List.map_drop, ← List.map_append, hf, h2]
      congr 1
      rw [List.take_append_of_le_length (by simp; omega), List.drop_append_of_le_length (by simp; omega), List.take_replicate, List.drop_replicate, ← List.append_assoc, List.replicate_append_replicate]
      congr 2; omega
  · have hkk : k = q' + 1 := by omega
    subst hkk
    refine ⟨y, ?_, ?_, by omega, hy, by rw [if_neg (by omega)]⟩
    · unfold pcs
      rw [hf, List.getElem?_map, List.getElem?_append_right (by simp)]; simp
    · unfold pcs
      rw [← List.map_take, ← List.map_drop, ← List.map_append, hf]
      congr 1
      have := lens_rep hz (q' + 1)
      rw [show ((q' + 1 : Nat) : Int) * z = p.2.2.1 - y by rw [show ((q' + 1 : Nat) : Int) = (q' : Int) + 1 by simp, Int.add_mul, Int.one_mul]; omega] at this
      rw [this, List.take_append_of_le_length (by simp), List.drop_eq_nil_of_le (by simp), List.take_replicate]
      simp
theorem pcs_last (p : Pk) {z y : Int} {q : Nat} (hf : lens p.2.2.1 z = List.replicate q z ++ [y]) : (pcs p z)[q]? = some (p.at y) := by
  unfold pcs
  rw [hf, List.getElem?_map, List.getElem?_append_right (by simp)]; simp
theorem take_flat5 (l : List Pk) (k : Nat) : (l.flatMap ev5).take (k * 5) = (l.take k).flatMap ev5 := by
  induction l generalizing k with
  | nil => simp
  | cons x l ih =>
    cases k with
    | zero => simp
    | succ k =>
      rw [List.flatMap_cons, List.take_append, List.take_of_length_le (by rw [ev5_len]; omega), ev5_len, show (k + 1) * 5 - 5 = k * 5 by omega, ih]
      simp
theorem drop_flat5 (l : List Pk) (k : Nat) : (l.flatMap ev5).drop (k * 5) = (l.drop k).flatMap ev5 := by
  induction l generalizing k with
  | nil => simp
  | cons x l ih =>
    cases k with
    | zero => simp
    | succ k =>
      rw [List.flatMap_cons, List.drop_append, List.drop_eq_nil_of_le (by rw [ev5_len]; omega), ev5_len, show (k + 1) * 5 - 5 = k * 5 by omega, ih]
      simp
end Go.Proofs.Ytnmkbnifgmeloaa.IR
