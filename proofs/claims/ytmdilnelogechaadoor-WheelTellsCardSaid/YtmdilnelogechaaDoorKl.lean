/- This text of a proof shows: rows by rising keys, in plain words; rows of elements of three cells, that are swapped: what stays, and when they are in order; a heap in a row: what a step down keeps, and that the first is the greatest; a row parted by a pivot; a row sorted by parting it again and again; what stands in a wheel's slots, and behind its own objects, in plain words; how the places of a ring are gone over, what is taken out of them, and what stands where, in plain numbers. -/
import Derived.Test.YtmdilnelogechaaDoorEvF
import Derived.Test.YtmdilnelogechaaDoorGh
set_option linter.unusedVariables false
set_option linter.unusedSimpArgs false
set_option linter.constructorNameAsVariable false
namespace Go.Proofs.YtmdilnelogechaaDoor.Ev.Rb
theorem nat_toNat (n : Nat) : ((n : Nat) : Int).toNat = n := Int.toNat_natCast n
def klt (a b : Int × Int) : Prop := a.1 < b.1 ∨ a.1 = b.1 ∧ a.2 < b.2
instance (a b : Int × Int) : Decidable (klt a b) := by unfold klt; infer_instance
theorem klt_irrefl (a : Int × Int) : ¬ klt a a := by unfold klt; omega
theorem klt_asymm {a b : Int × Int} (h : klt a b) : ¬ klt b a := by unfold klt at *; omega
theorem klt_trans {a b c : Int × Int} (h : klt a b) (k : klt b c) : klt a c := by unfold klt at *; omega
theorem klt_eq {a b : Int × Int} (h : ¬ klt a b) (k : ¬ klt b a) : a = b := by
  obtain ⟨a1, a2⟩ := a
  obtain ⟨b1, b2⟩ := b
  unfold klt at *
  simp only [Prod.mk.injEq] at *
  omega
def ekey (x : Int × Int × Int) : Int × Int := (x.1, x.2.1)
def Sorted (l : List (Int × Int × Int)) : Prop := l.Pairwise fun a b => klt (ekey a) (ekey b)
theorem head_min {m x : Int × Int × Int} {M R : List (Int × Int × Int)} (hs : Sorted (m :: M)) (hp : (m :: M).Perm (x :: R)) (hx : ∀ y ∈ R, klt (ekey x) (ekey y)) : m = x ∧ M.Perm R := by
  have h1 := (List.pairwise_cons.1 hs).1
  have : m = x := by
    have hm : m ∈ x :: R := hp.subset (by simp)
    have hx' : x ∈ m :: M := hp.symm.subset (by simp)
    rcases List.mem_cons.1 hx' with e | hx'
    · exact e.symm
    · rcases List.mem_cons.1 hm with e | hm
      · exact e
      · exact absurd (h1 x hx') (klt_asymm (hx m hm))
  subst this
  exact ⟨rfl, hp.cons_inv⟩
theorem sorted_eq : ∀ {a b : List (Int × Int × Int)}, Sorted a → Sorted b → a.Perm b → a = b
  | [], b, _, _, h => h.nil_eq
  | x :: a, [], _, _, h => absurd h.symm.nil_eq (by simp)
  | x :: a, y :: b, ha, hb, h => by
    obtain ⟨rfl, h'⟩ := head_min ha h (List.pairwise_cons.1 hb).1
    rw [sorted_eq (List.pairwise_cons.1 ha).2 (List.pairwise_cons.1 hb).2 h']
end Go.Proofs.YtmdilnelogechaaDoor.Ev.Rb
namespace Go.Proofs.YtmdilnelogechaaDoor.Ev.So
open Go Go.Proofs.YtmdilnelogechaaDoor.Ev
abbrev E := Int × Int × Int
abbrev Row := Nat → E
def upd (f : Row) (i : Nat) (x : E) : Row := fun j => if j = i then x else f j
def swp (f : Row) (i j : Nat) : Row := upd (upd f i (f j)) j (f i)
theorem swp_l (f : Row) (i j : Nat) : swp f i j i = f j := by unfold swp upd; split <;> simp_all
theorem swp_r (f : Row) (i j : Nat) : swp f i j j = f i := by simp [swp, upd]
theorem swp_o {f : Row} {i j k : Nat} (h1 : k ≠ i) (h2 : k ≠ j) : swp f i j k = f k := by simp [swp, upd, h1, h2]
section
variable (en : E → List Val)
def encR (f : Row) : Nat → List Val
  | 0 => []
  | n + 1 => encR f n ++ en (f n)
end
variable {en : E → List Val} (h3 : ∀ x, (en x).length = 3)
include h3
theorem encR_length (f : Row) : ∀ n, (encR en f n).length = n * 3
  | 0 => rfl
  | n + 1 => by simp [encR, encR_length f n, h3]; omega
theorem encR_get (f : Row) : ∀ (n : Nat) {i : Nat}, i < n → ((encR en f n).drop (i * 3)).take 3 = en (f i)
  | 0, i, h => by omega
  | n + 1, i, h => by
    have hl := encR_length h3 f n
    simp only [encR]
    by_cases e : i = n
    · subst e
      rw [← hl, List.drop_left, List.take_of_length_le (by rw [h3]; omega)]
    · rw [List.drop_append_of_le_length (by omega), List.take_append_of_le_length (by rw [List.length_drop]; omega), encR_get f n (by omega)]
omit h3 in
theorem encR_congr {f g : Row} : ∀ (n : Nat), (∀ i, i < n → g i = f i) → encR en g n = encR en f n
  | 0, _ => rfl
  | n + 1, h => by simp only [encR]; rw [encR_congr n (fun i hi => h i (by omega)), h n (by omega)]
theorem encR_wr (f : Row) (x : E) : ∀ (n : Nat) {i : Nat}, i < n → wr (encR en f n) (i * 3) (en x) = encR en (upd f i x) n
  | 0, i, h => by omega
  | n + 1, i, h => by
    have hset : ∀ (a b : List Val) (o : Nat) (l : List Val), o + l.length ≤ a.length → wr (a ++ b) o l = wr a o l ++ b := by
      intro a b o l
      induction l generalizing a o with
      | nil => intro _; rfl
      | cons v l ih =>
        intro hl
        simp only [wr]
        simp at hl
        rw [List.set_append_left _ _ (by omega), ih _ _ (by simp; omega)]
    have hset2 : ∀ (a b : List Val) (l : List Val), l.length = b.length → wr (a ++ b) a.length l = a ++ l := by
      intro a b l
      induction l generalizing a b with
      | nil => intro hl; cases b with
        | nil => rfl
        | cons _ _ => cases hl
      | cons v l ih =>
        intro hl
        cases b with
        | nil => cases hl
        | cons w b =>
          simp only [wr]
          rw [List.set_append_right _ _ (Nat.le_refl _), Nat.sub_self, List.set_cons_zero]
          have := ih (a ++ [v]) b (by simpa using hl)
          simp at this
          exact this
    simp only [encR]
    by_cases e : i = n
    · subst e
      have := hset2 (encR en f i) (en (f i)) (en x) (by rw [h3, h3])
      rw [encR_length h3] at this
      rw [this, encR_congr i (f := f) (g := upd f i x) fun k hk => by unfold upd; rw [if_neg (by omega)]]
      simp [upd]
    · rw [hset _ _ _ _ (by rw [encR_length h3, h3]; omega), encR_wr f x n (by omega)]
      simp only [upd]
      rw [if_neg (Ne.symm e)]
omit h3 in
theorem encR_ren (hr : ∀ ι x, renL ι (en x) = en x) (ι : Nat → Nat) (f : Row) : ∀ n, renL ι (encR en f n) = encR en f n
  | 0 => rfl
  | n + 1 => by simp only [encR]; rw [renL_append, encR_ren hr ι f n, hr]
omit h3 in
theorem encR_wf (hw : ∀ m x, wfL m (en x) = true) (m : Nat) (f : Row) : ∀ n, wfL m (encR en f n) = true
  | 0 => rfl
  | n + 1 => by simp only [encR]; rw [wfL_append, encR_wf hw m f n, hw]; rfl
omit h3

/-- g is f behind swaps of places from a on, below b. -/
inductive Sws (a b : Nat) (f : Row) : Row → Prop
  | refl : Sws a b f f
  | swap {g : Row} (i j : Nat) (h : Sws a b f g) (hi : a ≤ i ∧ i < b) (hj : a ≤ j ∧ j < b) : Sws a b f (swp g i j)
theorem Sws.trans {a b : Nat} {f g h : Row} (p : Sws a b f g) (q : Sws a b g h) : Sws a b f h := by
  induction q with
  | refl => exact p
  | swap i j _ hi hj ih => exact .swap i j ih hi hj
theorem Sws.mono {a b a' b' : Nat} {f g : Row} (p : Sws a b f g) (ha : a' ≤ a) (hb : b ≤ b') : Sws a' b' f g := by
  induction p with
  | refl => exact .refl
  | swap i j _ hi hj ih => exact .swap i j ih ⟨by omega, by omega⟩ ⟨by omega, by omega⟩
theorem Sws.out {a b : Nat} {f g : Row} (p : Sws a b f g) {k : Nat} (h : k < a ∨ b ≤ k) : g k = f k := by
  induction p with
  | refl => rfl
  | swap i j _ hi hj ih => rw [swp_o (by omega) (by omega)]; exact ih
theorem Sws.src {a b : Nat} {f g : Row} (p : Sws a b f g) : ∀ k, a ≤ k → k < b → ∃ m, a ≤ m ∧ m < b ∧ g k = f m := by
  induction p with
  | refl => exact fun k h1 h2 => ⟨k, h1, h2, rfl⟩
  | swap i j _ hi hj ih =>
    intro k h1 h2
    by_cases e1 : k = j
    · subst e1; rw [swp_r]; exact ih i hi.1 hi.2
    · by_cases e2 : k = i
      · subst e2; rw [swp_l]; exact ih j hj.1 hj.2
      · rw [swp_o e2 e1]; exact ih k h1 h2
/-- What all of the places have, they have behind swaps. -/
theorem Sws.all {a b : Nat} {f g : Row} (p : Sws a b f g) {P : E → Prop} (h : ∀ k, a ≤ k → k < b → P (f k)) : ∀ k, a ≤ k → k < b → P (g k) := fun k h1 h2 => by
  obtain ⟨m, m1, m2, e⟩ := p.src k h1 h2
  rw [e]; exact h m m1 m2
section
variable (lt : E → E → Prop)
/-- Any two places below n are in some order. -/
def Tot (f : Row) (n : Nat) : Prop := ∀ i j, i < n → j < n → i ≠ j → lt (f i) (f j) ∨ lt (f j) (f i)
structure Ord : Prop where
  trans : ∀ {a b c}, lt a b → lt b c → lt a c
  asymm : ∀ {a b}, lt a b → ¬ lt b a
def Srt (f : Row) (a b : Nat) : Prop := ∀ i j, a ≤ i → i < j → j < b → lt (f i) (f j)
/-- Whatever stands ahead of a is less than all from a on, below b. -/
def Lo (f : Row) (a b : Nat) : Prop := 0 < a → ∀ i, a ≤ i → i < b → lt (f (a - 1)) (f i)
end
variable {lt : E → E → Prop}
theorem Tot.swp {f : Row} {n i j : Nat} (h : Tot lt f n) (hi : i < n) (hj : j < n) : Tot lt (swp f i j) n := by
  intro p q hp hq hpq
  have key : ∀ k, k < n → ∃ m, m < n ∧ So.swp f i j k = f m ∧ (k = i → m = j) ∧ (k = j → m = i) ∧ (k ≠ i → k ≠ j → m = k) := by
    intro k hk
    by_cases e1 : k = j
    · subst e1; exact ⟨i, hi, swp_r _ _ _, fun e => e.symm, fun _ => rfl, fun _ h => absurd rfl h⟩
    · by_cases e2 : k = i
      · subst e2; exact ⟨j, hj, swp_l _ _ _, fun _ => rfl, fun e => absurd e e1, fun h _ => absurd rfl h⟩
      · exact ⟨k, hk, swp_o e2 e1, fun e => absurd e e2, fun e => absurd e e1, fun _ _ => rfl⟩
  obtain ⟨m1, a1, b1, c1, d1, g1⟩ := key p hp
  obtain ⟨m2, a2, b2, c2, d2, g2⟩ := key q hq
  rw [b1, b2]
  refine h m1 m2 a1 a2 ?_
  by_cases p1 : p = i <;> by_cases p2 : p = j <;> by_cases q1 : q = i <;> by_cases q2 : q = j <;> simp_all <;> omega
theorem Sws.tot {a b n : Nat} {f g : Row} (p : Sws a b f g) (h : Tot lt f n) (hb : b ≤ n) : Tot lt g n := by
  induction p with
  | refl => exact h
  | swap i j _ hi hj ih => exact ih.swp (by omega) (by omega)
theorem Lo.sws {a b c d : Nat} {f g : Row} (h : Lo lt f a b) (p : Sws c d f g) (h1 : a ≤ c) (h2 : d ≤ b) : Lo lt g a b := by
  intro ha i hi1 hi2
  rw [p.out (k := a - 1) (by omega)]
  exact (p.mono h1 h2).all (P := fun x => lt (f (a - 1)) x) (h ha) i hi1 hi2
theorem Srt.small {f : Row} {a b : Nat} (h : b ≤ a + 1) : Srt lt f a b := fun i j h1 h2 h3 => by omega
theorem Srt.sws_out {f g : Row} {a b c d : Nat} (h : Srt lt f a b) (p : Sws c d f g) (ho : d ≤ a ∨ b ≤ c) : Srt lt g a b := by
  intro i j h1 h2 h3
  rw [p.out (by omega), p.out (by omega)]
  exact h i j h1 h2 h3
/-- The row as a list: swaps keep what it has. -/
theorem swp_perm {f : Row} {n i j : Nat} (hi : i < n) (hj : j < n) : ((List.range n).map (swp f i j)).Perm ((List.range n).map f) := by
  have key : (List.range n).map (swp f i j) = ((List.range n).map fun k => if k = i then j else if k = j then i else k).map f := by
    rw [List.map_map]
    apply List.map_congr_left
    intro k _
    simp only [Function.comp]
    by_cases e1 : k = i
    · subst e1; rw [swp_l, if_pos rfl]
    · by_cases e2 : k = j
      · subst e2; rw [swp_r, if_neg e1, if_pos rfl]
      · rw [swp_o e1 e2, if_neg e1, if_neg e2]
  rw [key]
  refine List.Perm.map f ?_
  refine (List.perm_ext_iff_of_nodup ?_ List.nodup_range).2 fun k => ?_
  · refine List.pairwise_map.2 (List.nodup_range.imp fun {a b} hab e => hab ?_)
    by_cases a1 : a = i <;> by_cases a2 : a = j <;> by_cases b1 : b = i <;> by_cases b2 : b = j <;> simp_all
  · simp only [List.mem_map, List.mem_range]
    constructor
    · rintro ⟨m, hm, rfl⟩; split; exact hj; split; exact hi; exact hm
    · intro hk
      by_cases e1 : k = i
      · subst e1; exact ⟨j, hj, by by_cases e : j = k; simp [e]; simp [e]⟩
      · by_cases e2 : k = j
        · subst e2; exact ⟨i, hi, by simp⟩
        · exact ⟨k, hk, by simp [e1, e2]⟩
theorem Sws.perm {a b n : Nat} {f g : Row} (p : Sws a b f g) (hb : b ≤ n) : ((List.range n).map g).Perm ((List.range n).map f) := by
  induction p with
  | refl => exact .refl _
  | swap i j _ hi hj ih => exact (swp_perm (by omega) (by omega)).trans ih
end Go.Proofs.YtmdilnelogechaaDoor.Ev.So
namespace Go.Proofs.YtmdilnelogechaaDoor.Ev.So
section
variable (lt : E → E → Prop)
/-- All parents but x are greater than their children. -/
def Hp (g : Row) (s lo hi x : Nat) : Prop := ∀ i c, lo ≤ i → i ≠ x → (c = 2 * i + 1 ∨ c = 2 * i + 2) → c < hi → lt (g (s + c)) (g (s + i))
def HpUp (g : Row) (s lo hi x : Nat) : Prop := ∀ i c, lo ≤ i → (x = 2 * i + 1 ∨ x = 2 * i + 2) → (c = 2 * x + 1 ∨ c = 2 * x + 2) → c < hi → lt (g (s + c)) (g (s + i))
def HpA (g : Row) (s lo hi : Nat) : Prop := ∀ i c, lo ≤ i → (c = 2 * i + 1 ∨ c = 2 * i + 2) → c < hi → lt (g (s + c)) (g (s + i))
end
variable {lt : E → E → Prop} {g : Row} {s lo hi x c : Nat}
theorem Hp.start (h : HpA lt g s (lo + 1) hi) : Hp lt g s lo hi lo := fun i c h1 h2 h3 h4 => h i c (by omega) h3 h4
theorem HpUp.start : HpUp lt g s lo hi lo := fun i c h1 h2 _ _ => by omega
theorem HpA.start (h : hi ≤ 2 * lo + 1) : HpA lt g s lo hi := fun i c h1 h2 h3 => by omega
theorem Hp.done (h : Hp lt g s lo hi x) (hc : ∀ c, (c = 2 * x + 1 ∨ c = 2 * x + 2) → c < hi → lt (g (s + c)) (g (s + x))) : HpA lt g s lo hi := fun i c h1 h2 h3 => by
  by_cases e : i = x
  · subst e; exact hc c h2 h3
  · exact h i c h1 e h2 h3
theorem Hp.step (h : Hp lt g s lo hi x) (u : HpUp lt g s lo hi x) (hc : c = 2 * x + 1 ∨ c = 2 * x + 2) (hch : c < hi)
    (hm : ∀ d, (d = 2 * x + 1 ∨ d = 2 * x + 2) → d < hi → d ≠ c → lt (g (s + d)) (g (s + c))) (hx : lt (g (s + x)) (g (s + c))) :
    Hp lt (swp g (s + x) (s + c)) s lo hi c := by
  intro i d h1 h2 h3 h4
  by_cases e : i = x
  · subst e
    rw [swp_l]
    by_cases ed : d = c
    · subst ed; rw [swp_r]; exact hx
    · rw [swp_o (by omega) (by omega)]; exact hm d h3 h4 ed
  · rw [swp_o (k := s + i) (by omega) (by omega)]
    by_cases ed : d = x
    · subst ed
      rw [swp_l]
      exact u i c h1 h3 hc hch
    · rw [swp_o (by omega) (by omega)]; exact h i d h1 e h3 h4
theorem Hp.step_up (h : Hp lt g s lo hi x) (hl : lo ≤ x) (hc : c = 2 * x + 1 ∨ c = 2 * x + 2) : HpUp lt (swp g (s + x) (s + c)) s lo hi c := by
  intro i d h1 h2 h3 h4
  have e : i = x := by omega
  subst e
  rw [swp_l, swp_o (by omega) (by omega)]
  exact h c d (by omega) (by omega) h3 h4
theorem HpA.top (o : Ord lt) (h : HpA lt g s 0 hi) : ∀ m j, j ≤ m → 0 < j → j < hi → lt (g (s + j)) (g s) := by
  intro m
  induction m with
  | zero => intro j h1 h2; omega
  | succ m ih =>
    intro j h1 h2 h3
    have hp := h ((j - 1) / 2) j (Nat.zero_le _) (by omega) h3
    by_cases e : (j - 1) / 2 = 0
    · rw [e] at hp; exact hp
    · exact o.trans hp (ih _ (by omega) (by omega) (by omega))
theorem HpA.swap (h : HpA lt g s 0 (hi + 1)) : Hp lt (swp g s (s + hi)) s 0 hi 0 := fun i c _ h2 h3 h4 => by
  rw [swp_o (by omega) (by omega), swp_o (by omega) (by omega)]
  exact h i c (Nat.zero_le _) h3 (by omega)
/-- The greatest of the front stands behind it. -/
def Tail (lt : E → E → Prop) (g : Row) (s m b : Nat) : Prop := Srt lt g (s + m) b ∧ ∀ i j, s ≤ i → i < s + m → s + m ≤ j → j < b → lt (g i) (g j)
theorem Tail.swap (o : Ord lt) {m b : Nat} (h : HpA lt g s 0 (m + 1)) (t : Tail lt g s (m + 1) b) : Tail lt (swp g s (s + m)) s m b := by
  have top := h.top o
  have vm : swp g s (s + m) (s + m) = g s := swp_r _ _ _
  have src : ∀ i, s ≤ i → i < s + m → ∃ j, 0 < j ∧ j < m + 1 ∧ swp g s (s + m) i = g (s + j) := by
    intro i h1 h2
    by_cases e : i = s
    · subst e
      exact ⟨m, by omega, by omega, swp_l _ _ _⟩
    · refine ⟨i - s, by omega, by omega, ?_⟩
      rw [swp_o e (by omega)]
      congr 1; omega
  have vo : ∀ j, s + m < j → swp g s (s + m) j = g j := fun j hj => swp_o (by omega) (by omega)
  constructor
  · intro i j h1 h2 h3
    by_cases e : i = s + m
    · subst e
      rw [vm, vo j h2]
      exact t.2 s j (Nat.le_refl _) (by omega) (by omega) h3
    · rw [vo i (by omega), vo j (by omega)]
      exact t.1 i j (by omega) h2 h3
  · intro i j h1 h2 h3 h4
    obtain ⟨k, k1, k2, e⟩ := src i h1 h2
    rw [e]
    by_cases ej : j = s + m
    · subst ej; rw [vm]; exact top k k (Nat.le_refl _) k1 k2
    · rw [vo j (by omega)]; exact t.2 (s + k) j (by omega) (by omega) (by omega) h4
theorem Tail.sws {m b : Nat} {f : Row} (t : Tail lt f s m b) (p : Sws s (s + m) f g) : Tail lt g s m b := by
  refine ⟨t.1.sws_out p (.inl (Nat.le_refl _)), fun i j h1 h2 h3 h4 => ?_⟩
  rw [p.out (k := j) (.inr h3)]
  exact p.all (P := fun x => lt x (f j)) (fun k k1 k2 => t.2 k j k1 k2 h3 h4) i h1 h2
end Go.Proofs.YtmdilnelogechaaDoor.Ev.So
namespace Go.Proofs.YtmdilnelogechaaDoor.Ev.So
/-- Behind a, below i all are less than what stands at a; behind j, below b all are greater. -/
structure Pt (lt : E → E → Prop) (g : Row) (a b i j : Nat) : Prop where
  lo : ∀ k, a < k → k < i → lt (g k) (g a)
  up : ∀ k, j < k → k < b → lt (g a) (g k)
def PtF (lt : E → E → Prop) (g : Row) (a b m : Nat) : Prop := (∀ k, a ≤ k → k < m → lt (g k) (g m)) ∧ ∀ k, m < k → k < b → lt (g m) (g k)
variable {lt : E → E → Prop} {g : Row} {a b i j : Nat}
theorem Pt.start (h : b ≤ j + 1) : Pt lt g a b (a + 1) j := ⟨fun k h1 h2 => by omega, fun k h1 h2 => by omega⟩
theorem Pt.inc (h : Pt lt g a b i j) (hl : lt (g i) (g a)) : Pt lt g a b (i + 1) j := ⟨fun k h1 h2 => by
  by_cases e : k = i
  · subst e; exact hl
  · exact h.lo k h1 (by omega), h.up⟩
theorem Pt.dec (h : Pt lt g a b i (j + 1)) (hl : lt (g a) (g (j + 1))) : Pt lt g a b i j := ⟨h.lo, fun k h1 h2 => by
  by_cases e : k = j + 1
  · subst e; exact hl
  · exact h.up k (by omega) h2⟩
theorem Pt.swap (h : Pt lt g a b i (j + 1)) (hi : a < i) (hij : i < j + 1) (h1 : lt (g a) (g i)) (h2 : lt (g (j + 1)) (g a)) : Pt lt (swp g i (j + 1)) a b (i + 1) j := by
  have va : swp g i (j + 1) a = g a := swp_o (by omega) (by omega)
  refine ⟨fun k k1 k2 => ?_, fun k k1 k2 => ?_⟩
  · rw [va]
    by_cases e : k = i
    · subst e; rw [swp_l]; exact h2
    · rw [swp_o e (by omega)]; exact h.lo k k1 (by omega)
  · rw [va]
    by_cases e : k = j + 1
    · subst e; rw [swp_r]; exact h1
    · rw [swp_o (by omega) e]; exact h.up k (by omega) k2
theorem Pt.fin (h : Pt lt g a b i j) (hi : j < i) (ha : a ≤ j) : PtF lt (swp g j a) a b j := by
  have vj : swp g j a j = g a := swp_l _ _ _
  refine ⟨fun k k1 k2 => ?_, fun k k1 k2 => ?_⟩
  · rw [vj]
    by_cases e : k = a
    · subst e; rw [swp_r]; exact h.lo j (by omega) hi
    · rw [swp_o (by omega) e]; exact h.lo k (by omega) (by omega)
  · rw [vj, swp_o (by omega) (by omega)]; exact h.up k k1 k2
end Go.Proofs.YtmdilnelogechaaDoor.Ev.So
namespace Go.Proofs.YtmdilnelogechaaDoor.Ev.So
/-- All pairs but those within [c, d) stand in order. -/
def Fin (lt : E → E → Prop) (g : Row) (a b c d : Nat) : Prop := ∀ i j, a ≤ i → i < j → j < b → (i < c ∨ d ≤ j) → lt (g i) (g j)
variable {lt : E → E → Prop} {g h : Row} {a b c d m : Nat}
theorem Fin.start : Fin lt g a b a b := fun i j h1 h2 h3 h4 => by omega
theorem Fin.sws (t : Fin lt g a b c d) (p : Sws c d g h) (hc : a ≤ c) (hd : d ≤ b) : Fin lt h a b c d := by
  intro i j h1 h2 h3 h4
  by_cases i1 : i < c
  · rw [p.out (k := i) (.inl i1)]
    by_cases j1 : j < c ∨ d ≤ j
    · rw [p.out j1]; exact t i j h1 h2 h3 h4
    · exact p.all (P := fun x => lt (g i) x) (fun k k1 k2 => t i k h1 (by omega) (by omega) (.inl i1)) j (by omega) (by omega)
  · have hj : d ≤ j := by omega
    rw [p.out (k := j) (.inr hj)]
    by_cases i2 : d ≤ i
    · rw [p.out (.inr i2)]; exact t i j h1 h2 h3 h4
    · exact p.all (P := fun x => lt x (g j)) (fun k k1 k2 => t k j (by omega) (by omega) h3 (.inr hj)) i (by omega) (by omega)
theorem Fin.done (t : Fin lt g a b c d) (s : Srt lt g c d) : Srt lt g a b := fun i j h1 h2 h3 => by
  by_cases e : i < c ∨ d ≤ j
  · exact t i j h1 h2 h3 e
  · exact s i j (by omega) h2 (by omega)
theorem Fin.left (o : Ord lt) (t : Fin lt g a b c d) (p : PtF lt g c d m) (s : Srt lt g c m) : Fin lt g a b (m + 1) d := fun i j h1 h2 h3 h4 => by
  by_cases e : i < c ∨ d ≤ j
  · exact t i j h1 h2 h3 e
  · have him : i ≤ m := by omega
    by_cases j1 : j < m
    · exact s i j (by omega) h2 j1
    · by_cases j2 : j = m
      · subst j2; exact p.1 i (by omega) h2
      · have hj := p.2 j (by omega) (by omega)
        by_cases i1 : i = m
        · subst i1; exact hj
        · exact o.trans (p.1 i (by omega) (by omega)) hj
theorem Fin.right (o : Ord lt) (t : Fin lt g a b c d) (p : PtF lt g c d m) (s : Srt lt g (m + 1) d) : Fin lt g a b c m := fun i j h1 h2 h3 h4 => by
  by_cases e : i < c ∨ d ≤ j
  · exact t i j h1 h2 h3 e
  · have hjm : m ≤ j := by omega
    by_cases i1 : m < i
    · exact s i j (by omega) h2 (by omega)
    · by_cases i2 : i = m
      · subst i2; exact p.2 j h2 (by omega)
      · have hi := p.1 i (by omega) (by omega)
        by_cases j1 : j = m
        · subst j1; exact hi
        · exact o.trans hi (p.2 j (by omega) (by omega))
theorem PtF.sws_l (p : PtF lt g c d m) (q : Sws c m g h) : PtF lt h c d m := by
  have e : h m = g m := q.out (.inr (Nat.le_refl _))
  refine ⟨fun k k1 k2 => ?_, fun k k1 k2 => ?_⟩
  · rw [e]; exact q.all (P := fun x => lt x (g m)) p.1 k k1 k2
  · rw [e, q.out (k := k) (.inr (by omega))]; exact p.2 k k1 k2
theorem PtF.sws_r (p : PtF lt g c d m) (q : Sws (m + 1) d g h) : PtF lt h c d m := by
  have e : h m = g m := q.out (.inl (by omega))
  refine ⟨fun k k1 k2 => ?_, fun k k1 k2 => ?_⟩
  · rw [e, q.out (k := k) (.inl (by omega))]; exact p.1 k k1 k2
  · rw [e]; exact q.all (P := fun x => lt (g m) x) (fun k k1 k2 => p.2 k (by omega) k2) k k1 k2
theorem PtF.lo_r (p : PtF lt g c d m) : Lo lt g (m + 1) d := fun _ i h1 h2 => p.2 i (by omega) h2
theorem Lo.front (l : Lo lt g c d) (hm : m ≤ d) : Lo lt g c m := fun h i h1 h2 => l h i h1 (by omega)
end Go.Proofs.YtmdilnelogechaaDoor.Ev.So
namespace Go.Proofs.YtmdilnelogechaaDoor.Ev.Wh
open Go Go.Proofs.YtmdilnelogechaaDoor.Ev
/-- One that waits: its slot, which one it is, its number. -/
abbrev Th := Int × Int × Int
def enT (x : Th) : List Val := [.i .u64 x.2.2, .i .u64 x.1, .i .i64 x.2.1]
def thC (l : List Th) : List Val := l.flatMap enT
def n64 (l : List Int) : List Val := l.map (.i .u64)
theorem thC_len (l : List Th) : (thC l).length = l.length * 3 := by
  induction l with
  | nil => rfl
  | cons x l ih => simp [thC, enT] at ih ⊢; omega
theorem thC_app (a b : List Th) : thC (a ++ b) = thC a ++ thC b := by simp [thC]
theorem thC_wf (m : Nat) (l : List Th) : wfL m (thC l) = true := wfL_flat m (fun _ => rfl) l
theorem thC_ren (ι : Nat → Nat) (l : List Th) : renL ι (thC l) = thC l := renL_flat ι l fun _ => rfl
theorem n64_wf (m : Nat) (l : List Int) : wfL m (n64 l) = true := by
  induction l with
  | nil => rfl
  | cons x l ih => simp [n64, wfL, Val.wf] at ih ⊢; exact ih
theorem n64_len (l : List Int) : (n64 l).length = l.length := by simp [n64]
theorem thC_win {l : List Th} {i : Nat} {x : Th} (h : l[i]? = some x) : ((thC l).drop (i * 3)).take 3 = enT x ∧ i * 3 + 3 ≤ (thC l).length := by
  obtain ⟨hi, e⟩ := List.getElem?_eq_some_iff.1 h
  have e1 : l = l.take i ++ x :: l.drop (i + 1) := by rw [← e, ← List.drop_eq_getElem_cons hi, List.take_append_drop]
  have hl : (thC (l.take i)).length = i * 3 := by rw [thC_len, List.length_take]; congr 1; omega
  constructor
  · rw [e1, thC_app]
    rw [show i * 3 = (thC (l.take i)).length from hl.symm, List.drop_left]
    simp [thC, enT]
  · rw [thC_len]; omega
/-- Slots, width, cursor, room, how many wait, how many were put, what is due, and what stands at each place of the ring. -/
structure Ws where
  S : Nat
  w : Nat
  c : Nat
  room : Nat
  wt : Nat
  put : Nat
  due : List Int
  sl : Nat → List Th
/-- Objects that are to stay, by their places. -/
abbrev Jl := List (Nat × AObj)
structure WD (s : Ws) (J : Jl) (dv : Val) (cells : List Val) (D : Heap) (tag : Nat → Nat) : Prop where
  len : cells.length = s.S
  cell : ∀ p, p < s.S → (s.sl p = [] ∧ cells[p]? = some .nils) ∨ ∃ j, tag j = p ∧ cells[p]? = some (.sl (j + 7) 0 (s.sl p).length 3) ∧ D[j]? = some (.rw (thC (s.sl p)))
  duev : (dv = .nils ∧ s.due = []) ∨ ∃ j k, tag j = s.S ∧ dv = .sl (j + 7) k.length s.due.length 1 ∧ D[j]? = some (.rw (n64 k ++ n64 s.due))
  keep : ∀ x ∈ J, tag x.1 = s.S + 1 ∧ D[x.1]? = some x.2
  flat : ∀ o ∈ D, o.wf 0 = true
def tg (tag : Nat → Nat) (n v : Nat) : Nat → Nat := fun i => if i = n then v else tag i
theorem get_lt {D : Heap} {j : Nat} {o : AObj} (h : D[j]? = some o) : j < D.length := (List.getElem?_eq_some_iff.1 h).1
section
variable {s : Ws} {J : Jl} {dv : Val} {cells : List Val} {D : Heap} {tag : Nat → Nat}
/-- A new object behind all. -/
theorem WD.push (h : WD s J dv cells D tag) {o : AObj} (ho : o.wf 0 = true) : WD s J dv cells (D ++ [o]) (tg tag D.length (s.S + 1)) := by
  have old : ∀ {j q}, D[j]? = some q → (D ++ [o])[j]? = some q ∧ tg tag D.length (s.S + 1) j = tag j := fun {j q} hj => by
    have := get_lt hj
    exact ⟨by rw [List.getElem?_append_left this]; exact hj, if_neg (by omega)⟩
  refine ⟨h.len, fun p hp => ?_, ?_, fun x hx => ?_, fun q hq => ?_⟩
  · rcases h.cell p hp with a | ⟨j, h1, h2, h3⟩
    · exact .inl a
    · exact .inr ⟨j, by rw [(old h3).2]; exact h1, h2, (old h3).1⟩
  · rcases h.duev with a | ⟨j, k, h1, h2, h3⟩
    · exact .inl a
    · exact .inr ⟨j, k, by rw [(old h3).2]; exact h1, h2, (old h3).1⟩
  · obtain ⟨h1, h2⟩ := h.keep x hx
    exact ⟨by rw [(old h2).2]; exact h1, (old h2).1⟩
  · rcases List.mem_append.1 hq with hq | hq
    · exact h.flat q hq
    · rw [List.mem_singleton] at hq; subst hq; exact ho
/-- A new object behind all, that is to stay. -/
theorem WD.pushK (h : WD s J dv cells D tag) {o : AObj} (ho : o.wf 0 = true) : WD s ((D.length, o) :: J) dv cells (D ++ [o]) (tg tag D.length (s.S + 1)) := by
  have hp := h.push ho
  refine ⟨hp.len, hp.cell, hp.duev, fun x hx => ?_, hp.flat⟩
  rcases List.mem_cons.1 hx with rfl | hx
  · exact ⟨if_pos rfl, List.getElem?_concat_length⟩
  · exact hp.keep x hx
theorem WD.less (h : WD s J dv cells D tag) {J' : Jl} (hJ : ∀ x ∈ J', x ∈ J) : WD s J' dv cells D tag := ⟨h.len, h.cell, h.duev, fun x hx => h.keep x (hJ x hx), h.flat⟩
/-- One of those that are to stay is changed. -/
theorem WD.setK (h : WD s J dv cells D tag) {j : Nat} (hj : tag j = s.S + 1) {o : AObj} (ho : o.wf 0 = true) (hlt : j < D.length) {J' : Jl} (hJ : ∀ x ∈ J', (x ∈ J ∧ x.1 ≠ j) ∨ x = (j, o)) : WD s J' dv cells (D.set j o) tag := by
  have old : ∀ {i q}, D[i]? = some q → i ≠ j → (D.set j o)[i]? = some q := fun {i q} hi hn => by rw [List.getElem?_set_ne (Ne.symm hn)]; exact hi
  refine ⟨h.len, fun p hp => ?_, ?_, fun x hx => ?_, fun q hq => ?_⟩
  · rcases h.cell p hp with a | ⟨i, h1, h2, h3⟩
    · exact .inl a
    · exact .inr ⟨i, h1, h2, old h3 (by rintro rfl; omega)⟩
  · rcases h.duev with a | ⟨i, k, h1, h2, h3⟩
    · exact .inl a
    · exact .inr ⟨i, k, h1, h2, old h3 (by rintro rfl; omega)⟩
  · rcases hJ x hx with ⟨h1, h2⟩ | rfl
    · obtain ⟨g1, g2⟩ := h.keep x h1
      exact ⟨g1, old g2 h2⟩
    · exact ⟨hj, List.getElem?_set_self hlt⟩
  · rcases List.mem_or_eq_of_mem_set hq with hq | rfl
    · exact h.flat q hq
    · exact ho
def Ws.add (s : Ws) (p : Nat) (x : Th) : Ws := { s with sl := fun q => if q = p then s.sl p ++ [x] else s.sl q }
/-- A slot's row is written anew behind all; its old one, if there is one, is nobody's. -/
theorem WD.slot (h : WD s J dv cells D tag) {p : Nat} (hp : p < s.S) (x : Th) {D0 : Heap} (hD : (D0 = D ∧ s.sl p = []) ∨ ∃ j, tag j = p ∧ D[j]? = some (.rw (thC (s.sl p))) ∧ D0 = D.set j .dead) :
    WD (s.add p x) J dv (cells.set p (.sl (D.length + 7) 0 ((s.sl p).length + 1) 3)) (D0 ++ [.rw (thC (s.sl p ++ [x]))]) (tg tag D.length p) := by
  have hlen : D0.length = D.length := by
    rcases hD with ⟨rfl, _⟩ | ⟨j, _, _, rfl⟩
    · rfl
    · simp
  have old : ∀ {i q}, D[i]? = some q → tag i ≠ p → (D0 ++ [AObj.rw (thC (s.sl p ++ [x]))])[i]? = some q ∧ tg tag D.length p i = tag i := fun {i q} hi hn => by
    have hl := get_lt hi
    refine ⟨?_, if_neg (by omega)⟩
    rw [List.getElem?_append_left (by omega)]
    rcases hD with ⟨rfl, _⟩ | ⟨j, hj, _, rfl⟩
    · exact hi
    · rw [List.getElem?_set_ne (by rintro rfl; exact hn hj)]; exact hi
  refine ⟨by rw [List.length_set]; exact h.len, fun q hq => ?_, ?_, fun y hy => ?_, fun q hq => ?_⟩
  · have hq' : q < s.S := hq
    by_cases e : q = p
    · subst e
      refine .inr ⟨D.length, if_pos rfl, ?_, ?_⟩
      · rw [List.getElem?_set_self (by rw [h.len]; exact hp)]
        simp [Ws.add]
      · have := List.getElem?_concat_length (l := D0) (a := AObj.rw (thC (s.sl q ++ [x])))
        rw [hlen] at this
        rw [this]
        simp [Ws.add]
    · have e2 : (s.add p x).sl q = s.sl q := if_neg e
      rcases h.cell q hq' with ⟨h1, h2⟩ | ⟨j, h1, h2, h3⟩
      · exact .inl ⟨by rw [e2]; exact h1, by rw [List.getElem?_set_ne (Ne.symm e)]; exact h2⟩
      · have := old h3 (by rw [h1]; exact e)
        exact .inr ⟨j, by rw [this.2]; exact h1, by rw [List.getElem?_set_ne (Ne.symm e), e2]; exact h2, by rw [e2]; exact this.1⟩
  · rcases h.duev with a | ⟨j, k, h1, h2, h3⟩
    · exact .inl a
    · have := old h3 (by rw [h1]; omega)
      exact .inr ⟨j, k, by rw [this.2]; exact h1, h2, this.1⟩
  · obtain ⟨h1, h2⟩ := h.keep y hy
    have := old h2 (by rw [h1]; omega)
    exact ⟨by rw [this.2]; exact h1, this.1⟩
  · rcases List.mem_append.1 hq with hq | hq
    · rcases hD with ⟨rfl, _⟩ | ⟨j, _, _, rfl⟩
      · exact h.flat q hq
      · rcases List.mem_or_eq_of_mem_set hq with hq | rfl
        · exact h.flat q hq
        · rfl
    · rw [List.mem_singleton] at hq; subst hq; exact thC_wf 0 _
def Ws.clr (s : Ws) (p : Nat) : Ws := { s with sl := fun q => if q = p then [] else s.sl q }
theorem WD.clr (h : WD s J dv cells D tag) {p : Nat} (hp : p < s.S) : WD (s.clr p) J dv (cells.set p .nils) D tag := by
  refine ⟨by rw [List.length_set]; exact h.len, fun q hq => ?_, h.duev, h.keep, h.flat⟩
  have hq' : q < s.S := hq
  by_cases e : q = p
  · subst e
    exact .inl ⟨if_pos rfl, List.getElem?_set_self (by rw [h.len]; exact hp)⟩
  · have e2 : (s.clr p).sl q = s.sl q := if_neg e
    rw [List.getElem?_set_ne (Ne.symm e), e2]
    exact h.cell q hq'
/-- One is due: its number behind the others. -/
theorem WD.dues (h : WD s J dv cells D tag) (v : Int) {D0 : Heap} (hD : (D0 = D ∧ dv = .nils) ∨ ∃ j k, tag j = s.S ∧ dv = .sl (j + 7) k s.due.length 1 ∧ j < D.length ∧ D0 = D.set j .dead) :
    WD { s with due := s.due ++ [v] } J (.sl (D.length + 7) 0 (s.due.length + 1) 1) cells (D0 ++ [.rw (n64 (s.due ++ [v]))]) (tg tag D.length s.S) := by
  have hlen : D0.length = D.length := by
    rcases hD with ⟨rfl, _⟩ | ⟨j, k, _, _, _, rfl⟩
    · rfl
    · simp
  have old : ∀ {i q}, D[i]? = some q → tag i ≠ s.S → (D0 ++ [AObj.rw (n64 (s.due ++ [v]))])[i]? = some q ∧ tg tag D.length s.S i = tag i := fun {i q} hi hn => by
    have hl := get_lt hi
    refine ⟨?_, if_neg (by omega)⟩
    rw [List.getElem?_append_left (by omega)]
    rcases hD with ⟨rfl, _⟩ | ⟨j, k, hj, _, _, rfl⟩
    · exact hi
    · rw [List.getElem?_set_ne (by rintro rfl; exact hn hj)]; exact hi
  refine ⟨h.len, fun q hq => ?_, ?_, fun y hy => ?_, fun q hq => ?_⟩
  · have hq' : q < s.S := hq
    rcases h.cell q hq' with a | ⟨j, h1, h2, h3⟩
    · exact .inl a
    · have := old h3 (by omega)
      exact .inr ⟨j, by rw [this.2]; exact h1, h2, this.1⟩
  · refine .inr ⟨D.length, [], if_pos rfl, by simp, ?_⟩
    have := List.getElem?_concat_length (l := D0) (a := AObj.rw (n64 (s.due ++ [v])))
    rw [hlen] at this
    exact this
  · obtain ⟨h1, h2⟩ := h.keep y hy
    have := old h2 (by rw [h1]; omega)
    exact ⟨by rw [this.2]; exact h1, this.1⟩
  · rcases List.mem_append.1 hq with hq | hq
    · rcases hD with ⟨rfl, _⟩ | ⟨j, k, _, _, _, rfl⟩
      · exact h.flat q hq
      · rcases List.mem_or_eq_of_mem_set hq with hq | rfl
        · exact h.flat q hq
        · rfl
    · rw [List.mem_singleton] at hq; subst hq; exact n64_wf 0 _
/-- The first one that is due is taken. -/
theorem WD.take (h : WD s J dv cells D tag) {v : Int} {l : List Int} (hd : s.due = v :: l) : ∃ j k, dv = .sl (j + 7) k (l.length + 1) 1 ∧ (∃ c, D[j]? = some (.rw c) ∧ c[k]? = some (.i .u64 v)) ∧ WD { s with due := l } J (.sl (j + 7) (k + 1) l.length 1) cells D tag := by
  rcases h.duev with ⟨_, e⟩ | ⟨j, k, h1, h2, h3⟩
  · rw [e] at hd; cases hd
  · rw [hd] at h2 h3
    refine ⟨j, k.length, by simpa using h2, ⟨_, h3, ?_⟩, ⟨h.len, h.cell, .inr ⟨j, k ++ [v], h1, ?_, ?_⟩, h.keep, h.flat⟩⟩
    · rw [List.getElem?_append_right (by rw [n64_len]; exact Nat.le_refl _), n64_len]; simp [n64]
    · simp
    · rw [h3]; simp [n64]
end
end Go.Proofs.YtmdilnelogechaaDoor.Ev.Wh
namespace Go.Proofs.YtmdilnelogechaaDoor.Ev.Wh
open Go Go.Proofs.YtmdilnelogechaaDoor.Ev
theorem mod_two {x S : Nat} (h : x < 2 * S) : x % S = if x < S then x else x - S := by
  split
  · exact Nat.mod_eq_of_lt (by assumption)
  · rw [Nat.mod_eq_sub_mod (by omega), Nat.mod_eq_of_lt (by omega)]
theorem mod_add2 (c d S : Nat) : (c + d) % S = (c % S + d) % S := (Nat.mod_add_mod c S d).symm
/-- How far a place is ahead of the cursor's. -/
def dN (S c q : Nat) : Nat := (q + S - c % S) % S
theorem place_dN {S c q : Nat} (hq : q < S) : (c + dN S c q) % S = q := by
  have hr : c % S < S := Nat.mod_lt _ (by omega)
  rw [mod_add2]
  unfold dN
  generalize c % S = r at hr
  rw [mod_two (x := q + S - r) (by omega)]
  split
  · rw [mod_two (by omega)]; split <;> omega
  · rw [mod_two (by omega)]; split <;> omega
theorem dN_place {S c d : Nat} (hd : d < S) : dN S c ((c + d) % S) = d := by
  have hr : c % S < S := Nat.mod_lt _ (by omega)
  unfold dN
  rw [mod_add2]
  generalize c % S = r at hr
  rw [mod_two (x := r + d) (by omega)]
  split
  · rw [mod_two (by omega)]; split <;> omega
  · rw [mod_two (by omega)]; split <;> omega
theorem place_inj {S c d e : Nat} (hd : d < S) (he : e < S) (h : (c + d) % S = (c + e) % S) : d = e := by
  have h1 := dN_place (c := c) hd
  rw [h, dN_place he] at h1
  exact h1.symm
theorem round_dist {S b i : Nat} {p : Nat → Bool} (hb : b < S) (hi : i < S) (h : (b ≤ i ∧ ∀ k, b ≤ k → k < i → p k = false) ∨ (i < b ∧ (∀ k, b ≤ k → p k = false) ∧ ∀ k, k < i → p k = false)) :
    (b + (i + S - b) % S) % S = i ∧ (i + S - b) % S < S ∧ ∀ e, e < (i + S - b) % S → p ((b + e) % S) = false := by
  rw [mod_two (x := i + S - b) (by omega)]
  rcases h with ⟨h1, h2⟩ | ⟨h1, h2, h3⟩
  · rw [if_neg (by omega)]
    refine ⟨?_, by omega, fun e he => ?_⟩
    · rw [mod_two (by omega), if_pos (by omega)]; omega
    · rw [mod_two (by omega), if_pos (by omega)]; exact h2 _ (by omega) (by omega)
  · rw [if_pos (by omega)]
    refine ⟨?_, by omega, fun e he => ?_⟩
    · rw [mod_two (by omega), if_neg (by omega)]; omega
    · rw [mod_two (by omega)]
      split
      · exact h2 _ (by omega)
      · exact h3 _ (by omega)
section
variable {S c : Nat} {f : Nat → List Th}
/-- The places as they are when the first n ahead of the cursor are taken. -/
def cut (S c : Nat) (f : Nat → List Th) (n : Nat) : Nat → List Th := fun q => if dN S c q < n then [] else f q
def outL (S c : Nat) (f : Nat → List Th) (n : Nat) : List Th := (List.range n).flatMap fun d => f ((c + d) % S)
theorem cut_zero : cut S c f 0 = f := by funext q; simp [cut]
theorem outL_succ (n : Nat) : outL S c f (n + 1) = outL S c f n ++ f ((c + n) % S) := by simp [outL, List.range_succ]
theorem outL_skip {n : Nat} : ∀ k, (∀ d, n ≤ d → d < n + k → f ((c + d) % S) = []) → outL S c f (n + k) = outL S c f n
  | 0, _ => rfl
  | k + 1, h => by
    rw [← Nat.add_assoc, outL_succ, h (n + k) (by omega) (by omega), List.append_nil]
    exact outL_skip k fun d h1 h2 => h d h1 (by omega)
theorem cut_skip {n k q : Nat} (hq : q < S) (h : ∀ d, n ≤ d → d < n + k → f ((c + d) % S) = []) : cut S c f (n + k) q = cut S c f n q := by
  unfold cut
  by_cases h1 : dN S c q < n
  · rw [if_pos h1, if_pos (by omega)]
  · rw [if_neg h1]
    split
    · rename_i h2
      have := h _ (by omega) h2
      rw [place_dN hq] at this
      exact this.symm
    · rfl
theorem cut_succ {n q : Nat} (hq : q < S) (hn : n < S) : cut S c f (n + 1) q = if q = (c + n) % S then [] else cut S c f n q := by
  unfold cut
  by_cases e : q = (c + n) % S
  · rw [if_pos e, if_pos (by rw [e, dN_place hn]; omega)]
  · rw [if_neg e]
    have : dN S c q ≠ n := fun h => e (by rw [← h, place_dN hq])
    by_cases h1 : dN S c q < n
    · rw [if_pos h1, if_pos (by omega)]
    · rw [if_neg h1, if_neg (by omega)]
theorem cut_at {n d : Nat} (hd : d < S) (h : n ≤ d) : cut S c f n ((c + d) % S) = f ((c + d) % S) := by
  unfold cut; rw [dN_place hd, if_neg (by omega)]
/-- All that stands in the ring. -/
def all (S : Nat) (f : Nat → List Th) : List Th := (List.range S).flatMap f
theorem all_succ (S : Nat) (f : Nat → List Th) : all (S + 1) f = all S f ++ f S := by simp [all, List.range_succ]
theorem all_congr {f g : Nat → List Th} : ∀ {S : Nat}, (∀ q, q < S → f q = g q) → all S f = all S g
  | 0, _ => rfl
  | S + 1, h => by rw [all_succ, all_succ, all_congr fun q hq => h q (by omega), h S (by omega)]
theorem all_upd (v : List Th) {p : Nat} : ∀ {S : Nat}, p < S → (all S (fun q => if q = p then v else f q) ++ f p).Perm (all S f ++ v)
  | 0, h => by omega
  | S + 1, h => by
    rw [all_succ, all_succ]
    by_cases e : p = S
    · subst e
      rw [if_pos rfl, all_congr (g := f) fun q hq => if_neg (by omega)]
      rw [List.append_assoc, List.append_assoc]
      exact List.Perm.append_left _ List.perm_append_comm
    · rw [if_neg (by omega)]
      have ih := all_upd v (S := S) (p := p) (by omega)
      refine List.Perm.trans (l₂ := (all S fun q => if q = p then v else f q) ++ f p ++ f S) ?_ ?_
      · rw [List.append_assoc, List.append_assoc]
        exact List.Perm.append_left _ List.perm_append_comm
      · refine (ih.append_right _).trans ?_
        rw [List.append_assoc, List.append_assoc]
        exact List.Perm.append_left _ List.perm_append_comm
theorem len_all {S : Nat} {f : Nat → List Th} {q : Nat} (h : q < S) : (f q).length ≤ (all S f).length := by
  have := (all_upd (f := f) [] h).length_eq
  simp at this
  omega
end
/-- Things, and where each stands. -/
abbrev Tl := List (Th × Nat)
structure RT (S c hi : Nat) (f : Nat → List Th) (T : Tl) : Prop where
  slot : ∀ q, q < S → (f q).Perm ((T.filter fun y => y.2 % S = q).map (·.1))
  lo : ∀ y ∈ T, c ≤ y.2
  hi : ∀ y ∈ T, y.2 ≤ hi ∧ y.2 < c + S
theorem filter_two {α : Type} {p q r : α → Bool} : ∀ {l : List α}, (∀ x ∈ l, r x = (p x || q x) ∧ ¬ (p x = true ∧ q x = true)) → (l.filter r).Perm (l.filter p ++ l.filter q)
  | [], _ => .refl _
  | x :: l, h => by
    have ih := filter_two (l := l) fun y hy => h y (by simp [hy])
    obtain ⟨h1, h2⟩ := h x (by simp)
    simp only [List.filter_cons, h1]
    cases hp : p x <;> cases hq : q x <;> simp only [hp, hq, Bool.or_self, Bool.or_true, Bool.true_or, Bool.false_eq_true, if_false, if_true, Bool.or_false] at h2 ⊢
    · exact ih
    · exact (ih.cons x).trans List.perm_middle.symm
    · exact ih.cons x
    · exact absurd ⟨trivial, trivial⟩ h2
theorem RT.out {S c hi : Nat} {f : Nat → List Th} {T : Tl} (h : RT S c hi f T) (hS : 0 < S) : ∀ {n : Nat}, n ≤ S → (outL S c f n).Perm ((T.filter fun y => y.2 < c + n).map (·.1))
  | 0, _ => by
    have : T.filter (fun y => y.2 < c + 0) = [] := List.filter_eq_nil_iff.2 fun y hy => by have := h.lo y hy; simp; omega
    rw [this]; exact .refl _
  | n + 1, hn => by
    rw [outL_succ]
    have ih := h.out hS (n := n) (by omega)
    have h1 := h.slot ((c + n) % S) (Nat.mod_lt _ hS)
    have e : T.filter (fun y => y.2 % S = (c + n) % S) = T.filter (fun y => y.2 = c + n) := by
      refine List.filter_congr fun y hy => ?_
      have hlo := h.lo y hy
      have hhi := (h.hi y hy).2
      obtain ⟨d, hd⟩ : ∃ d, y.2 = c + d := ⟨y.2 - c, by omega⟩
      rw [hd]
      by_cases e : d = n
      · simp [e]
      · have : ¬ (c + d) % S = (c + n) % S := fun q => e (place_inj (by omega) (by omega) q)
        simp [this, e]
    rw [e] at h1
    refine (ih.append h1).trans ?_
    rw [← List.map_append]
    refine (List.Perm.map _ ?_).symm
    refine filter_two fun y _ => ?_
    constructor
    · rw [Bool.eq_iff_iff]; simp; omega
    · simp; omega
theorem RT.cuts {S c hi : Nat} {f : Nat → List Th} {T : Tl} (h : RT S c hi f T) {n q : Nat} (hq : q < S) (hn : n ≤ S) : (Wh.cut S c f n q).Perm (((T.filter fun y => c + n ≤ y.2).filter fun y => y.2 % S = q).map (·.1)) := by
  unfold Wh.cut
  rw [List.filter_filter]
  have key : ∀ y ∈ T, y.2 % S = q → y.2 = c + dN S c q := fun y hy e => by
    have hlo := h.lo y hy
    have hhi := (h.hi y hy).2
    obtain ⟨d, hd⟩ : ∃ d, y.2 = c + d := ⟨y.2 - c, by omega⟩
    rw [hd] at e ⊢
    rw [← e, dN_place (by omega)]
  split
  · rename_i hd
    have : T.filter (fun y => decide (y.2 % S = q) && decide (c + n ≤ y.2)) = [] := List.filter_eq_nil_iff.2 fun y hy => by
      simp only [Bool.and_eq_true, decide_eq_true_eq, not_and]
      intro e
      have := key y hy e
      omega
    rw [this]; exact .refl _
  · rename_i hd
    refine (h.slot q hq).trans ?_
    rw [List.filter_congr fun y hy => ?_]
    rw [Bool.eq_iff_iff]
    simp only [Bool.and_eq_true, decide_eq_true_eq]
    constructor
    · intro e
      have := key y hy e
      exact ⟨e, by omega⟩
    · exact fun e => e.1
theorem RT.add {S c hi : Nat} {f : Nat → List Th} {T : Tl} (h : RT S c hi f T) {x : Th} {t : Nat} (h1 : c ≤ t) (h2 : t ≤ hi) (h3 : t < c + S) : RT S c hi (fun q => if q = t % S then f (t % S) ++ [x] else f q) (T ++ [(x, t)]) := by
  refine ⟨fun q hq => ?_, fun y hy => ?_, fun y hy => ?_⟩
  · rw [List.filter_append, List.map_append]
    by_cases e : q = t % S
    · subst e
      rw [if_pos rfl]
      have : [(x, t)].filter (fun y : Th × Nat => decide (y.2 % S = t % S)) = [(x, t)] := by simp
      rw [this]
      exact (h.slot _ hq).append_right _
    · rw [if_neg e]
      have : [(x, t)].filter (fun y : Th × Nat => decide (y.2 % S = q)) = [] := by simp [Ne.symm e]
      rw [this]
      simpa using h.slot q hq
  · rcases List.mem_append.1 hy with hy | hy
    · exact h.lo y hy
    · rw [List.mem_singleton] at hy; subst hy; exact h1
  · rcases List.mem_append.1 hy with hy | hy
    · exact h.hi y hy
    · rw [List.mem_singleton] at hy; subst hy; exact ⟨h2, h3⟩
theorem RT.all {S c hi : Nat} {f : Nat → List Th} {T : Tl} (h : RT S c hi f T) : ∀ {n : Nat}, n ≤ S → (Wh.all n f).Perm ((T.filter fun y => y.2 % S < n).map (·.1))
  | 0, _ => by
    have : T.filter (fun y => y.2 % S < 0) = [] := List.filter_eq_nil_iff.2 fun y hy => by simp
    rw [this]; exact .refl _
  | n + 1, hn => by
    rw [all_succ]
    refine ((h.all (n := n) (by omega)).append (h.slot n (by omega))).trans ?_
    rw [← List.map_append]
    refine (List.Perm.map _ ?_).symm
    refine filter_two fun y _ => ?_
    constructor
    · rw [Bool.eq_iff_iff]; simp; omega
    · simp; omega
theorem RT.perm {S c hi : Nat} {f : Nat → List Th} {T : Tl} (h : RT S c hi f T) (hS : 0 < S) : (Wh.all S f).Perm (T.map (·.1)) := by
  have := h.all (Nat.le_refl S)
  rwa [List.filter_eq_self.2 fun y _ => by simp [Nat.mod_lt _ hS]] at this
end Go.Proofs.YtmdilnelogechaaDoor.Ev.Wh
