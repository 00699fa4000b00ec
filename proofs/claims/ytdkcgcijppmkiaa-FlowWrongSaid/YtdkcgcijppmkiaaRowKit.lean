/- What a row over a slice of structs wants: a list whose elements are read at the slice's cells. -/
import Derived.Test.YtdkcgcijppmkiaaWWords
namespace Go.Proofs.Ytdkcgcijppmkiaa.RowKit2
open Go.RowKit Go.Proofs.YtdkcgcijppmkiaaW.PrintWords
theorem row_nil {α : Type} {d : Kd α} {W : World} {a : Option Addr} : Kd.C d W a ([] : List α).length [] := ⟨rfl, Nat.zero_le _, fun h => absurd h (Nat.lt_irrefl 0)⟩
theorem row_of {α : Type} (d : Kd α) {wf : α → Prop} {W : World} {n : Nat} (a : Addr) (hn : n ≤ 9223372036854775807)
    (h : ∀ i, i < n → ∃ (x : α) (c : List Value), wf x ∧ d.K W x c ∧ ∀ j u, c[j]? = some u → W.cell? (a.add (i * d.sz + j)) = some u) :
    ∃ l : List α, n = l.length ∧ Kd.C d W (some a) l.length l ∧ ∀ x ∈ l, wf x := by
  refine ⟨List.ofFn fun i : Fin n => Classical.choose (h i i.2), by simp, ⟨rfl, by simpa using hn, fun _ => ⟨a, rfl, fun j p hp => ?_⟩⟩, fun x hx => ?_⟩
  · obtain ⟨hj, e⟩ := List.getElem?_eq_some_iff.1 hp
    rw [List.length_ofFn] at hj
    rw [List.getElem_ofFn] at e
    obtain ⟨c, _, hK, hc⟩ := Classical.choose_spec (h j hj)
    subst e
    exact ⟨c, d.K_len hK, hK, hc⟩
  · obtain ⟨i, rfl⟩ := List.mem_ofFn.1 hx
    obtain ⟨c, hw, _⟩ := Classical.choose_spec (h i i.2)
    exact hw
end Go.Proofs.Ytdkcgcijppmkiaa.RowKit2
