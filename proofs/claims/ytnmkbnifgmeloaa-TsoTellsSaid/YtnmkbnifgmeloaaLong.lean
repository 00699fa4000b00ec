/- Plain arithmetic: the product of two words by halves of each, as the references and the statements write it; and a division bit by bit. -/
import Derived.Test.YtnmkbnifgmeloaaDivPlain
import Derived.Laws.MathBits
namespace Go.Proofs.Ytnmkbnifgmeloaa.Sat
/-- Both words of a product, by halves. -/
theorem long_words (a b a1 a0 b1 b0 : Nat) (ea : a = a1 * 4294967296 + a0) (eb : b = b1 * 4294967296 + b0) (h1 : a1 < 4294967296) (h2 : a0 < 4294967296) (h3 : b1 < 4294967296) (h4 : b0 < 4294967296) :
    (a1 * b1 + (a1 * b0 + a0 * b0 / 4294967296) / 4294967296 + (a0 * b1 + (a1 * b0 + a0 * b0 / 4294967296) % 4294967296) / 4294967296 = a * b / 18446744073709551616) ∧
    ((a0 * b1 + (a1 * b0 + a0 * b0 / 4294967296) % 4294967296) % 4294967296 * 4294967296 + a0 * b0 % 4294967296 = a * b % 18446744073709551616) ∧
    a1 * b1 ≤ 18446744065119617025 ∧ a1 * b0 ≤ 18446744065119617025 ∧ a0 * b0 ≤ 18446744065119617025 ∧ a0 * b1 ≤ 18446744065119617025 := by
  have e : a * b = a1 * b1 * 18446744073709551616 + (a1 * b0 + a0 * b1) * 4294967296 + a0 * b0 := by rw [ea, eb]; grind
  have m1 : a1 * b1 ≤ 4294967295 * 4294967295 := Nat.mul_le_mul (by omega) (by omega)
  have m2 : a1 * b0 ≤ 4294967295 * 4294967295 := Nat.mul_le_mul (by omega) (by omega)
  have m3 : a0 * b0 ≤ 4294967295 * 4294967295 := Nat.mul_le_mul (by omega) (by omega)
  have m4 : a0 * b1 ≤ 4294967295 * 4294967295 := Nat.mul_le_mul (by omega) (by omega)
  rw [e]
  generalize a1 * b1 = A at *
  generalize a1 * b0 = B at *
  generalize a0 * b0 = C at *
  generalize a0 * b1 = D at *
  clear ea eb e h1 h2 h3 h4
  refine ⟨?_, ?_, ?_⟩ <;> omega
end Go.Proofs.Ytnmkbnifgmeloaa.Sat
