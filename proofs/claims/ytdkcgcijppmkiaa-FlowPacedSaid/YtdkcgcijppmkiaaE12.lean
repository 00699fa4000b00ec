/- This text of a proof shows: what a paced flow lets out in any time. -/
import Derived.Test.YtdkcgcijppmkiaaV12
set_option linter.unusedVariables false
set_option linter.unusedSimpArgs false
set_option linter.constructorNameAsVariable false
namespace Go.Proofs.Ytdkcgcijppmkiaa.IR
open Go Go.Proofs.Ytdkcgcijppmkiaa.Ev Go.Proofs.Ytdkcgcijppmkiaa.Ext
def sumS : List (Int × Int) → Int
  | [] => 0
  | x :: l => x.1 + sumS l
theorem sumS_snoc (y : Int × Int) : ∀ l : List (Int × Int), sumS (l ++ [y]) = sumS l + y.1
  | [] => by simp [sumS]
  | x :: l => by simp only [List.cons_append, sumS, sumS_snoc y l]; omega
/-- Of each tail: its sum, and when its first one left. -/
def Tl (P : Int → Int → Prop) : List (Int × Int) → Prop
  | [] => True
  | x :: l => P (x.1 + sumS l) x.2 ∧ Tl P l
theorem Tl.snoc {P P' : Int → Int → Prop} {y : Int × Int} (hs : ∀ s a, P s a → P' (s + y.1) a) (hy : P' y.1 y.2) : ∀ {l : List (Int × Int)}, Tl P l → Tl P' (l ++ [y])
  | [], _ => ⟨by simpa [sumS] using hy, trivial⟩
  | x :: l, h => ⟨by
      show P' (x.1 + sumS (l ++ [y])) x.2
      rw [sumS_snoc, ← Int.add_assoc]
      exact hs _ _ h.1, Tl.snoc hs hy h.2⟩
theorem Tl.imp {P P' : Int → Int → Prop} (hs : ∀ s a, P s a → P' s a) : ∀ {l : List (Int × Int)}, Tl P l → Tl P' l
  | [], _ => trivial
  | _ :: _, h => ⟨hs _ _ h.1, Tl.imp hs h.2⟩
def Seg (Q : Int → Int → Prop) (a : Int) : Int → List (Int × Int) → Prop
  | _, [] => True
  | acc, y :: l => (a ≤ y.2 ∧ Q (acc + y.1) (y.2 - a)) ∧ Seg Q a (acc + y.1) l
theorem Seg.snoc {Q : Int → Int → Prop} {a : Int} {y : Int × Int} : ∀ {l : List (Int × Int)} (acc : Int), Seg Q a acc l → (a ≤ y.2 ∧ Q (acc + sumS l + y.1) (y.2 - a)) → Seg Q a acc (l ++ [y])
  | [], acc, _, h => ⟨by simpa [sumS] using h, trivial⟩
  | x :: l, acc, hs, h => ⟨hs.1, Seg.snoc (acc + x.1) hs.2 (by
      have e : acc + x.1 + sumS l + y.1 = acc + sumS (x :: l) + y.1 := by simp only [sumS]; omega
      rw [e]; exact h)⟩
theorem Seg.imp {Q Q' : Int → Int → Prop} {a : Int} (h : ∀ s d, Q s d → Q' s d) : ∀ {l : List (Int × Int)} (acc : Int), Seg Q a acc l → Seg Q' a acc l
  | [], _, _ => trivial
  | _ :: _, _, hs => ⟨⟨hs.1.1, h _ _ hs.1.2⟩, Seg.imp h _ hs.2⟩
/-- Of each two, the first one ahead of the second one, or the same. -/
def Prs (Q : Int → Int → Prop) : List (Int × Int) → Prop
  | [] => True
  | x :: l => Seg Q x.2 0 (x :: l) ∧ Prs Q l
theorem Prs.snoc {Q P : Int → Int → Prop} {y : Int × Int} (hp : ∀ s a, P s a → a ≤ y.2 ∧ Q (s + y.1) (y.2 - a)) (hy : Q y.1 0) : ∀ {l : List (Int × Int)}, Tl P l → Prs Q l → Prs Q (l ++ [y])
  | [], _, _ => ⟨⟨⟨Int.le_refl _, by simpa using hy⟩, trivial⟩, trivial⟩
  | x :: l, ht, hq => ⟨Seg.snoc (l := x :: l) 0 hq.1 (by
      have := hp _ _ ht.1
      simp only [sumS, Int.zero_add]
      exact this), Prs.snoc hp hy ht.2 hq.2⟩
theorem Prs.imp {Q Q' : Int → Int → Prop} (h : ∀ s d, Q s d → Q' s d) : ∀ {l : List (Int × Int)}, Prs Q l → Prs Q' l
  | [], _ => trivial
  | _ :: _, hq => ⟨Seg.imp h _ hq.1, Prs.imp h hq.2⟩
theorem tm_facts {d r : Int} (hd : 0 ≤ d) (hd1 : d ≤ 200000) (hr : 1 ≤ r) : d * 1000000000 ≤ tm d r * r ∧ 0 ≤ tm d r ∧ tm d r ≤ d * 1000000000 := by
  have hr0 : ¬ r = 0 := by omega
  have hm := Int.emod_lt_of_pos (d * 1000000000 + (r - 1)) (show 0 < r by omega)
  have hm0 := Int.emod_nonneg (d * 1000000000 + (r - 1)) hr0
  have he := Int.mul_ediv_add_emod (d * 1000000000 + (r - 1)) r
  have hq0 : 0 ≤ (d * 1000000000 + (r - 1)) / r := Int.ediv_nonneg (by omega) (by omega)
  have hq1 : (d * 1000000000 + (r - 1)) / r ≤ d * 1000000000 := by
    rcases Int.lt_or_eq_of_le hd with h | h
    · apply Int.ediv_le_of_le_mul (by omega)
      have := Int.mul_nonneg (show 0 ≤ d * 1000000000 - 1 by omega) (show 0 ≤ r - 1 by omega)
      rw [Int.sub_mul, Int.mul_sub, Int.one_mul, Int.mul_one] at this
      omega
    · subst h
      have := Int.ediv_eq_zero_of_lt (a := 0 * 1000000000 + (r - 1)) (b := r) (by omega) (by omega)
      omega
  have ht : tm d r = (d * 1000000000 + (r - 1)) / r := by
    unfold tm sat
    rw [if_neg hr0, if_pos (by omega)]
  rw [ht]
  generalize hg : (d * 1000000000 + (r - 1)) / r = q at *
  rw [Int.mul_comm r q] at he
  exact ⟨by omega, hq0, hq1⟩
structure PF (r M : Int) (S : List (Int × Int)) (L : Int) (f : FL) (now : Int) : Prop where
  d0 : 0 ≤ f.debt
  cm : f.credit + f.debt ≤ M
  cz : f.credit ≤ 0 → f.debt = 0
  nx : 0 < f.debt → f.next ≤ now
  tl : Tl (fun s a => a ≤ now ∧ (s ≤ f.debt ∨ (s - f.debt) * 1000000000 + a * r ≤ f.next * r)) S
  prs : Prs (fun s d => s ≤ d * r / 1000000000 + (M - 1) + L) S
theorem PF.later {r M : Int} {S : List (Int × Int)} {L : Int} {f : FL} {now t : Int} (h : PF r M S L f now) (ht : now ≤ t) : PF r M S L f t :=
  ⟨h.d0, h.cm, h.cz, fun hd => Int.le_trans (h.nx hd) ht, h.tl.imp (fun _ _ q => ⟨Int.le_trans q.1 ht, q.2⟩), h.prs⟩
theorem PF.debt_le {r M : Int} {S : List (Int × Int)} {L : Int} {f : FL} {now : Int} (h : PF r M S L f now) (hM : 0 ≤ M) : f.debt ≤ M := by
  have h1 := h.cm
  by_cases hc : f.credit ≤ 0
  · rw [h.cz hc]; exact hM
  · omega
theorem PF.fill {r M : Int} {S : List (Int × Int)} {L : Int} {f : FL} {now : Int} {p : PC} (h : PF r M S L f now) (hc : f.credit ≤ 0) (hq : p.quantum ≤ M) : PF r M S L (fill f p) now := by
  have hd := h.cz hc
  exact ⟨h.d0, by show f.credit + p.quantum + f.debt ≤ M; omega, fun _ => hd, h.nx, h.tl, h.prs⟩
theorem PF.aged {r M : Int} {S : List (Int × Int)} {L : Int} {f : FL} {now t : Int} (h : PF r M S L f now) : PF r M S L (rest f t) now := ⟨h.d0, h.cm, h.cz, h.nx, h.tl, h.prs⟩
theorem mxi_ge (a b : Int) : a ≤ mxi a b ∧ b ≤ mxi a b ∧ (mxi a b = a ∨ mxi a b = b) := by
  unfold mxi; split <;> (refine ⟨?_, ?_, ?_⟩ <;> omega)
theorem PF.wake {r M : Int} {S : List (Int × Int)} {L : Int} {f : FL} {now t : Int} {p : PC} (h : PF r M S L f now) (ht : now ≤ t) (hr : rt f p = r) (hr1 : 1 ≤ r) (hM : M ≤ 65536) (hM0 : 0 ≤ M) (hq : p.quantum ≤ M) (hn : now ≤ 18000000000000000000) :
    PF r M S L (woken (rest f now) p t) t := by
  unfold woken
  split
  · exact h.aged.later ht
  · have hd := h.debt_le hM0
    have hT := tm_facts h.d0 (by omega) hr1
    have hc := mxi_ge f.credit p.quantum
    have hcm := h.cm
    have hd0 := h.d0
    refine ⟨Int.le_refl _, ?_, fun _ => rfl, (fun q => absurd q (Int.lt_irrefl _)), ?_, h.prs⟩
    · show mxi f.credit p.quantum + 0 ≤ M
      omega
    · show Tl (fun s a => a ≤ t ∧ (s ≤ 0 ∨ (s - 0) * 1000000000 + a * r ≤ payN (rest f now) p now * r)) S
      refine h.tl.imp (fun s a q => ⟨Int.le_trans q.1 ht, ?_⟩)
      unfold payN
      have e : rt (rest f now) p = r := hr
      rw [e]
      by_cases hpos : 0 < f.debt
      · rw [if_pos (show 0 < r ∧ 0 < (rest f now).debt from ⟨by omega, hpos⟩)]
        have hs : sat (now + tm f.debt r) = now + tm f.debt r := by unfold sat; rw [if_pos (by omega)]
        show s ≤ 0 ∨ (s - 0) * 1000000000 + a * r ≤ mxi f.next (sat (now + tm f.debt r)) * r
        rw [hs]
        have h1 := Int.mul_le_mul_of_nonneg_right (mxi_ge f.next (now + tm f.debt r)).2.1 (show 0 ≤ r by omega)
        have h2 := Int.mul_le_mul_of_nonneg_right (h.nx hpos) (show 0 ≤ r by omega)
        have h3 := Int.mul_le_mul_of_nonneg_right q.1 (show 0 ≤ r by omega)
        rw [Int.add_mul] at h1
        right
        rcases q.2 with g | g <;> omega
      · rw [if_neg (show ¬ (0 < r ∧ 0 < (rest f now).debt) from fun g => hpos g.2)]
        have hz : f.debt = 0 := by omega
        show s ≤ 0 ∨ (s - 0) * 1000000000 + a * r ≤ f.next * r
        have := q.2
        rw [hz] at this
        exact this
theorem PF.charge {r M : Int} {S : List (Int × Int)} {L L' : Int} {f : FL} {now n : Int} {p : PC} (h : PF r M S L f now) (hr : rt f p = r) (hr1 : 1 ≤ r) (hlow : ¬ r < p.low) (hM : M ≤ 65536) (hM0 : 0 ≤ M) (hn : now ≤ 18000000000000000000)
    (hx : f.next ≤ now) (hc : 1 ≤ f.credit) (h1 : 1 ≤ n) (h2 : n ≤ 65536) (hL : L ≤ L') (hnL : n ≤ L') : PF r M (S ++ [(n, now)]) L' (charged f p n now) now := by
  have hd := h.debt_le hM0
  have hd0 := h.d0
  have hcm := h.cm
  have hr0 : ¬ rt f p = 0 := by rw [hr]; omega
  have hprs : Prs (fun s d => s ≤ d * r / 1000000000 + (M - 1) + L') (S ++ [(n, now)]) := by
    refine Prs.snoc (P := fun s a => a ≤ now ∧ (s ≤ f.debt ∨ (s - f.debt) * 1000000000 + a * r ≤ f.next * r)) (fun s a q => ⟨q.1, ?_⟩) ?_ h.tl (h.prs.imp (fun s d q => by omega))
    · show s + n ≤ (now - a) * r / 1000000000 + (M - 1) + L'
      have h3 := Int.mul_le_mul_of_nonneg_right hx (show 0 ≤ r by omega)
      have h4 := Int.mul_nonneg (show 0 ≤ now - a by have := q.1; omega) (show 0 ≤ r by omega)
      have h5 : (now - a) * r = now * r - a * r := Int.sub_mul _ _ _
      generalize (now - a) * r = w at *
      rcases q.2 with g | g <;> omega
    · show n ≤ 0 * r / 1000000000 + (M - 1) + L'
      rw [Int.zero_mul]
      omega
  unfold charged
  rw [if_neg hr0]
  by_cases hz : f.credit - n ≤ 0
  · rw [if_pos (.inr hz), if_neg (by rw [hr]; exact hlow)]
    have hT := tm_facts (d := f.debt + n) (r := r) (by omega) (by omega) hr1
    refine ⟨Int.le_refl _, by show f.credit - n + 0 ≤ M; omega, fun _ => rfl, (fun q => absurd q (Int.lt_irrefl _)), ?_, hprs⟩
    have e : rt { f with credit := if rt f p < p.low then mni (f.credit - n) 0 else f.credit - n, debt := f.debt + n } p = r := hr
    have hpn : ∀ c : Int, payN { f with credit := c, debt := f.debt + n } p now = mxi f.next (now + tm (f.debt + n) r) := by
      intro c
      have e : rt { f with credit := c, debt := f.debt + n } p = r := hr
      unfold payN
      rw [e, if_pos (show 0 < r ∧ 0 < f.debt + n from ⟨by omega, by omega⟩)]
      show mxi f.next (sat (now + tm (f.debt + n) r)) = _
      have hs : sat (now + tm (f.debt + n) r) = now + tm (f.debt + n) r := by unfold sat; rw [if_pos (by omega)]
      rw [hs]
    show Tl (fun s a => a ≤ now ∧ (s ≤ 0 ∨ (s - 0) * 1000000000 + a * r ≤ payN _ p now * r)) (S ++ [(n, now)])
    rw [hpn]
    have g1 := Int.mul_le_mul_of_nonneg_right (mxi_ge f.next (now + tm (f.debt + n) r)).2.1 (show 0 ≤ r by omega)
    rw [Int.add_mul] at g1
    have g2 := Int.mul_le_mul_of_nonneg_right hx (show 0 ≤ r by omega)
    refine Tl.snoc (P := fun s a => a ≤ now ∧ (s ≤ f.debt ∨ (s - f.debt) * 1000000000 + a * r ≤ f.next * r)) (fun s a q => ⟨q.1, ?_⟩) ⟨Int.le_refl _, ?_⟩ h.tl
    · show s + n ≤ 0 ∨ (s + n - 0) * 1000000000 + a * r ≤ _
      have g3 := Int.mul_le_mul_of_nonneg_right q.1 (show 0 ≤ r by omega)
      right
      rcases q.2 with g | g <;> omega
    · show n ≤ 0 ∨ (n - 0) * 1000000000 + now * r ≤ _
      right
      omega
  · rw [if_neg (by rw [hr]; intro g; rcases g with g | g; exact hlow g; exact hz g)]
    refine ⟨by show 0 ≤ f.debt + n; omega, by show f.credit - n + (f.debt + n) ≤ M; omega, fun q => absurd q hz, fun _ => hx, ?_, hprs⟩
    show Tl (fun s a => a ≤ now ∧ (s ≤ f.debt + n ∨ (s - (f.debt + n)) * 1000000000 + a * r ≤ f.next * r)) (S ++ [(n, now)])
    refine Tl.snoc (P := fun s a => a ≤ now ∧ (s ≤ f.debt ∨ (s - f.debt) * 1000000000 + a * r ≤ f.next * r)) (fun s a q => ⟨q.1, ?_⟩) ⟨Int.le_refl _, .inl (by show n ≤ f.debt + n; omega)⟩ h.tl
    show s + n ≤ f.debt + n ∨ (s + n - (f.debt + n)) * 1000000000 + a * r ≤ f.next * r
    rcases q.2 with g | g
    · left; omega
    · right; omega
end Go.Proofs.Ytdkcgcijppmkiaa.IR
