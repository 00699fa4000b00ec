/- This text of a proof shows: rows of elements of three cells, that are swapped: what stays, and when they are in order. -/
import Derived.Test.YtjahkgfihdngkaaEvF
set_option linter.unusedVariables false
set_option linter.unusedSimpArgs false
set_option linter.constructorNameAsVariable false
namespace Go.Proofs.Ytjahkgfihdngkaa.Ev.So
open Go Go.Proofs.Ytjahkgfihdngkaa.Ev
abbrev E := Int × Int × Int
abbrev Row := Nat → E
def upd (f : Row) (i : Nat) (x : E) : Row := fun j => if j = i then x else f j
def swp (f : Row) (i j : Nat) : Row := upd (upd f i (f j)) j (f i)
theorem swp_l (f : Row) (i j : Nat) : swp f i j i = f j := by unfold swp upd; split <;> simp_all
theorem swp_r (f : Row) (i j : Nat) : swp f i j j = f i := by simp [swp, upd]
theorem swp_o {f : Row} {i j k : Nat} (h1 : k ≠ i) (h2 : k ≠ j) : swp f i j k = f k := by simp [swp, upd, h1, h2]
section
variable (en : E → List Val)
def encR (f : Row) : Nat → List Val
  | 0 => []
  | n + 1 => encR f n ++ en (f n)
end
variable {en : E → List Val} (h3 : ∀ x, (en x).length = 3)
include h3
theorem encR_length (f : Row) : ∀ n, (encR en f n).length = n * 3
  | 0 => rfl
  | n + 1 => by simp [encR, encR_length f n, h3]; omega
theorem encR_get (f : Row) : ∀ (n : Nat) {i : Nat}, i < n → ((encR en f n).drop (i * 3)).take 3 = en (f i)
  | 0, i, h => by omega
  | n + 1, i, h => by
    have hl := encR_length h3 f n
    simp only [encR]
    by_cases e : i = n
    · subst e
      rw [← hl, List.drop_left, List.take_of_length_le (by rw [h3]; omega)]
    · rw [List.drop_append_of_le_length (by omega), List.take_append_of_le_length (by rw [List.length_drop]; omega), encR_get f n (by omega)]
omit h3 in
theorem encR_congr {f g : Row} : ∀ (n : Nat), (∀ i, i < n → g i = f i) → encR en g n = encR en f n
  | 0, _ => rfl
  | n + 1, h => by simp only [encR]; rw [encR_congr n (fun i hi => h i (by omega)), h n (by omega)]
theorem encR_wr (f : Row) (x : E) : ∀ (n : Nat) {i : Nat}, i < n → wr (encR en f n) (i * 3) (en x) = encR en (upd f i x) n
  | 0, i, h => by omega
  | n + 1, i, h => by
    have hset : ∀ (a b : List Val) (o : Nat) (l : List Val), o + l.length ≤ a.length → wr (a ++ b) o l = wr a o l ++ b := by
      intro a b o l
      induction l generalizing a o with
      | nil => intro _; rfl
      | cons v l ih =>
        intro hl
        simp only [wr]
        simp at hl
        rw [List.set_append_left _ _ (by omega), ih _ _ (by simp; omega)]
    have hset2 : ∀ (a b : List Val) (l : List Val), l.length = b.length → wr (a ++ b) a.length l = a ++ l := by
      intro a b l
      induction l generalizing a b with
      | nil => intro hl; cases b with
        | nil => rfl
        | cons _ _ => cases hl
      | cons v l ih =>
        intro hl
        cases b with
        | nil => cases hl
        | cons w b =>
          simp only [wr]
          rw [List.set_append_right _ _ (Nat.le_refl _), Nat.sub_self, List.set_cons_zero]
          have := ih (a ++ [v]) b (by simpa using hl)
          simp at this
          exact this
    simp only [encR]
    by_cases e : i = n
    · subst e
      have := hset2 (encR en f i) (en (f i)) (en x) (by rw [h3, h3])
      rw [encR_length h3] at this
      rw [this, encR_congr i (f := f) (g := upd f i x) fun k hk => by unfold upd; rw [if_neg (by omega)]]
      simp [upd]
    · rw [hset _ _ _ _ (by rw [encR_length h3, h3]; omega), encR_wr f x n (by omega)]
      simp only [upd]
      rw [if_neg (Ne.symm e)]
omit h3 in
theorem encR_ren (hr : ∀ ι x, renL ι (en x) = en x) (ι : Nat → Nat) (f : Row) : ∀ n, renL ι (encR en f n) = encR en f n
  | 0 => rfl
  | n + 1 => by simp only [encR]; rw [renL_append, encR_ren hr ι f n, hr]
omit h3 in
theorem encR_wf (hw : ∀ m x, wfL m (en x) = true) (m : Nat) (f : Row) : ∀ n, wfL m (encR en f n) = true
  | 0 => rfl
  | n + 1 => by simp only [encR]; rw [wfL_append, encR_wf hw m f n, hw]; rfl
omit h3

/-- g is f behind swaps of places from a on, below b. -/
inductive Sws (a b : Nat) (f : Row) : Row → Prop
  | refl : Sws a b f f
  | swap {g : Row} (i j : Nat) (h : Sws a b f g) (hi : a ≤ i ∧ i < b) (hj : a ≤ j ∧ j < b) : Sws a b f (swp g i j)
theorem Sws.trans {a b : Nat} {f g h : Row} (p : Sws a b f g) (q : Sws a b g h) : Sws a b f h := by
  induction q with
  | refl => exact p
  | swap i j _ hi hj ih => exact .swap i j ih hi hj
theorem Sws.mono {a b a' b' : Nat} {f g : Row} (p : Sws a b f g) (ha : a' ≤ a) (hb : b ≤ b') : Sws a' b' f g := by
  induction p with
  | refl => exact .refl
  | swap i j _ hi hj ih => exact .swap i j ih ⟨by omega, by omega⟩ ⟨by omega, by omega⟩
theorem Sws.out {a b : Nat} {f g : Row} (p : Sws a b f g) {k : Nat} (h : k < a ∨ b ≤ k) : g k = f k := by
  induction p with
  | refl => rfl
  | swap i j _ hi hj ih => rw [swp_o (by omega) (by omega)]; exact ih
theorem Sws.src {a b : Nat} {f g : Row} (p : Sws a b f g) : ∀ k, a ≤ k → k < b → ∃ m, a ≤ m ∧ m < b ∧ g k = f m := by
  induction p with
  | refl => exact fun k h1 h2 => ⟨k, h1, h2, rfl⟩
  | swap i j _ hi hj ih =>
    intro k h1 h2
    by_cases e1 : k = j
    · subst e1; rw [swp_r]; exact ih i hi.1 hi.2
    · by_cases e2 : k = i
      · subst e2; rw [swp_l]; exact ih j hj.1 hj.2
      · rw [swp_o e2 e1]; exact ih k h1 h2
/-- What all of the places have, they have behind swaps. -/
theorem Sws.all {a b : Nat} {f g : Row} (p : Sws a b f g) {P : E → Prop} (h : ∀ k, a ≤ k → k < b → P (f k)) : ∀ k, a ≤ k → k < b → P (g k) := fun k h1 h2 => by
  obtain ⟨m, m1, m2, e⟩ := p.src k h1 h2
  rw [e]; exact h m m1 m2
section
variable (lt : E → E → Prop)
/-- Any two places below n are in some order. -/
def Tot (f : Row) (n : Nat) : Prop := ∀ i j, i < n → j < n → i ≠ j → lt (f i) (f j) ∨ lt (f j) (f i)
structure Ord : Prop where
  trans : ∀ {a b c}, lt a b → lt b c → lt a c
  asymm : ∀ {a b}, lt a b → ¬ lt b a
def Srt (f : Row) (a b : Nat) : Prop := ∀ i j, a ≤ i → i < j → j < b → lt (f i) (f j)
/-- Whatever stands ahead of a is less than all from a on, below b. -/
def Lo (f : Row) (a b : Nat) : Prop := 0 < a → ∀ i, a ≤ i → i < b → lt (f (a - 1)) (f i)
end
variable {lt : E → E → Prop}
theorem Tot.swp {f : Row} {n i j : Nat} (h : Tot lt f n) (hi : i < n) (hj : j < n) : Tot lt (swp f i j) n := by
  intro p q hp hq hpq
  have key : ∀ k, k < n → ∃ m, m < n ∧ So.swp f i j k = f m ∧ (k = i → m = j) ∧ (k = j → m = i) ∧ (k ≠ i → k ≠ j → m = k) := by
    intro k hk
    by_cases e1 : k = j
    · subst e1; exact ⟨i, hi, swp_r _ _ _, fun e => e.symm, fun _ => rfl, fun _ h => absurd rfl h⟩
    · by_cases e2 : k = i
      · subst e2; exact ⟨j, hj, swp_l _ _ _, fun _ => rfl, fun e => absurd e e1, fun h _ => absurd rfl h⟩
      · exact ⟨k, hk, swp_o e2 e1, fun e => absurd e e2, fun e => absurd e e1, fun _ _ => rfl⟩
  obtain ⟨m1, a1, b1, c1, d1, g1⟩ := key p hp
  obtain ⟨m2, a2, b2, c2, d2, g2⟩ := key q hq
  rw [b1, b2]
  refine h m1 m2 a1 a2 ?_
  by_cases p1 : p = i <;> by_cases p2 : p = j <;> by_cases q1 : q = i <;> by_cases q2 : q = j <;> simp_all <;> omega
theorem Sws.tot {a b n : Nat} {f g : Row} (p : Sws a b f g) (h : Tot lt f n) (hb : b ≤ n) : Tot lt g n := by
  induction p with
  | refl => exact h
  | swap i j _ hi hj ih => exact ih.swp (by omega) (by omega)
theorem Lo.sws {a b c d : Nat} {f g : Row} (h : Lo lt f a b) (p : Sws c d f g) (h1 : a ≤ c) (h2 : d ≤ b) : Lo lt g a b := by
  intro ha i hi1 hi2
  rw [p.out (k := a - 1) (by omega)]
  exact (p.mono h1 h2).all (P := fun x => lt (f (a - 1)) x) (h ha) i hi1 hi2
theorem Srt.small {f : Row} {a b : Nat} (h : b ≤ a + 1) : Srt lt f a b := fun i j h1 h2 h3 => by omega
theorem Srt.sws_out {f g : Row} {a b c d : Nat} (h : Srt lt f a b) (p : Sws c d f g) (ho : d ≤ a ∨ b ≤ c) : Srt lt g a b := by
  intro i j h1 h2 h3
  rw [p.out (by omega), p.out (by omega)]
  exact h i j h1 h2 h3
/-- The row as a list: swaps keep what it has. -/
theorem swp_perm {f : Row} {n i j : Nat} (hi : i < n) (hj : j < n) : ((List.range n).map (swp f i j)).Perm ((List.range n).map f) := by
  have key : (List.range n).map (swp f i j) = ((List.range n).map fun k => if k = i then j else if k = j then i else k).map f := by
    rw [List.map_map]
    apply List.map_congr_left
    intro k _
    simp only [Function.comp]
    by_cases e1 : k = i
    · subst e1; rw [swp_l, if_pos rfl]
    · by_cases e2 : k = j
      · subst e2; rw [swp_r, if_neg e1, if_pos rfl]
      · rw [swp_o e1 e2, if_neg e1, if_neg e2]
  rw [key]
  refine List.Perm.map f ?_
  refine (List.perm_ext_iff_of_nodup ?_ List.nodup_range).2 fun k => ?_
  · refine List.pairwise_map.2 (List.nodup_range.imp fun {a b} hab e => hab ?_)
    by_cases a1 : a = i <;> by_cases a2 : a = j <;> by_cases b1 : b = i <;> by_cases b2 : b = j <;> simp_all
  · simp only [List.mem_map, List.mem_range]
    constructor
    · rintro ⟨m, hm, rfl⟩; split; exact hj; split; exact hi; exact hm
    · intro hk
      by_cases e1 : k = i
      · subst e1; exact ⟨j, hj, by by_cases e : j = k; simp [e]; simp [e]⟩
      · by_cases e2 : k = j
        · subst e2; exact ⟨i, hi, by simp⟩
        · exact ⟨k, hk, by simp [e1, e2]⟩
theorem Sws.perm {a b n : Nat} {f g : Row} (p : Sws a b f g) (hb : b ≤ n) : ((List.range n).map g).Perm ((List.range n).map f) := by
  induction p with
  | refl => exact .refl _
  | swap i j _ hi hj ih => exact (swp_perm (by omega) (by omega)).trans ih
end Go.Proofs.Ytjahkgfihdngkaa.Ev.So
