/- This text of a proof shows: what a line's packets are worth in a time, in plain numbers. -/
import Derived.Test.YthpcdpnolmacpaaG24
import Derived.Test.YthpcdpnolmacpaaEvF
import Derived.Test.YthpcdpnolmacpaaSpanFacts
set_option linter.unusedVariables false
set_option linter.unusedSimpArgs false
set_option linter.constructorNameAsVariable false
namespace Go.Proofs.Ythpcdpnolmacpaa.IR
open Go Go.Proofs.Ythpcdpnolmacpaa.Ev Go.Proofs.Ythpcdpnolmacpaa.Ext
set_option linter.unusedVariables false
theorem tm_pos {n r : Int} (hn : 1 ≤ n) (hr : U r) (h0 : 0 < r) : 1 ≤ tm n r := by
  unfold tm
  rw [if_neg (by omega)]
  refine le_sat ?_ (by decide)
  rw [Int.le_ediv_iff_mul_le h0]
  omega
theorem div_add_le {a b c : Int} (hc : 0 < c) : a / c + b / c ≤ (a + b) / c := by
  rw [Int.le_ediv_iff_mul_le hc, Int.add_mul]
  have h1 := Int.ediv_mul_le a (Int.ne_of_gt hc)
  have h2 := Int.ediv_mul_le b (Int.ne_of_gt hc)
  omega
theorem time_worth' {n r : Int} (hn : U n) (hr : U r) (h0 : 0 < r) (ht : tm n r ≠ 18446744073709551615) : n ≤ tm n r * r / 1000000000 := by
  have h := (time_worth hn hr (by omega) ht).1
  unfold by_ at h
  rw [if_neg (by omega)] at h
  exact Int.le_trans h (sat_le _)
/-- Ends that go on from lo to hi, each as long behind the last one as it takes. -/
def Ch (rate : Int) : Int → List (Int × Int × Int) → Int → Prop
  | lo, [], hi => lo ≤ hi
  | lo, x :: q, hi => sat (lo + tm x.2.1 rate) ≤ x.2.2 ∧ x.2.2 ≤ 18446744073709551615 ∧ Ch rate x.2.2 q hi
theorem Ch.snoc {rate : Int} : ∀ {q : List (Int × Int × Int)} {lo hi : Int}, Ch rate lo q hi → ∀ {y : Int × Int × Int}, sat (hi + tm y.2.1 rate) ≤ y.2.2 → y.2.2 ≤ 18446744073709551615 → Ch rate lo (q ++ [y]) y.2.2
  | [], lo, hi, h, y, hy, hz => ⟨Int.le_trans (sat_mono (by have : lo ≤ hi := h; omega)) hy, hz, Int.le_refl _⟩
  | x :: q, lo, hi, h, y, hy, hz => ⟨h.1, h.2.1, Ch.snoc h.2.2 hy hz⟩
theorem Ch.ge {rate : Int} (hr : U rate) : ∀ {q : List (Int × Int × Int)} {lo hi : Int}, Ch rate lo q hi → Fine q → lo ≤ 18446744073709551615 → ∀ x ∈ q, lo ≤ x.2.2
  | [], _, _, _, _, _, x, hx => by simp at hx
  | y :: q, lo, hi, h, hf, hl, x, hx => by
    have h0 : 0 ≤ tm y.2.1 rate := tm_nonneg (by have := (hf y (by simp)).1; omega) hr
    have h1 : lo ≤ y.2.2 := Int.le_trans (le_sat (by omega) hl) h.1
    rcases List.mem_cons.1 hx with rfl | hx
    · exact h1
    · exact Int.le_trans h1 (Ch.ge hr h.2.2 (fun z hz => hf z (by simp [hz])) h.2.1 x hx)
theorem Ch.top {rate : Int} : ∀ {q : List (Int × Int × Int)} {lo hi : Int}, Ch rate lo q hi → ∀ x ∈ q, x.2.2 ≤ 18446744073709551615
  | [], _, _, _, x, hx => by simp at hx
  | y :: q, lo, hi, h, x, hx => by
    rcases List.mem_cons.1 hx with rfl | hx
    · exact h.2.1
    · exact Ch.top h.2.2 x hx
/-- What was done behind the first look: nothing; or as much as the time between two ends is worth, and one packet. -/
def Acc (rate fr bytes longest cl : Int) (q : List (Int × Int × Int)) (last : Int) : Prop :=
  (bytes = 0 ∧ longest = 0) ∨ ∃ e1 E, fr < e1 ∧ e1 ≤ E ∧ E ≤ cl ∧ bytes ≤ longest + (E - e1) * rate / 1000000000 ∧ Ch rate E q last
theorem Acc.pop {rate fr bytes longest cl last : Int} {x : Int × Int × Int} {q : List (Int × Int × Int)} (hr : U rate) (h0 : 0 < rate) (hc : cl < 18446744073709551615) (h : Acc rate fr bytes longest cl (x :: q) last)
    (hch : ∃ lo, Ch rate lo (x :: q) last) (hlow : fr < x.2.2) (hfr : 0 ≤ fr) (hx : x.2.2 ≤ cl) (hn : 1 ≤ x.2.1) (hn2 : x.2.1 ≤ 65536) : Acc rate fr (bytes + x.2.1) (mxi longest x.2.1) cl q last := by
  rcases h with ⟨rfl, rfl⟩ | ⟨e1, E, g1, g2, g3, g4, g5⟩
  · obtain ⟨lo, hlo⟩ := hch
    refine .inr ⟨x.2.2, x.2.2, hlow, Int.le_refl _, hx, ?_, hlo.2.2⟩
    rw [Int.sub_self, Int.zero_mul, Int.zero_ediv]
    unfold mxi; split <;> omega
  · obtain ⟨k1, k2, k3⟩ := g5
    obtain ⟨k4, k5⟩ := sat_lt (x := E + tm x.2.1 rate) (by omega)
    rw [k4] at k1
    have hw := time_worth' (n := x.2.1) ⟨by omega, by omega⟩ hr h0 (by omega)
    refine .inr ⟨e1, x.2.2, g1, by have := tm_nonneg (n := x.2.1) (by omega) hr; omega, hx, ?_, k3⟩
    have h1 : (E - e1) * rate / 1000000000 + tm x.2.1 rate * rate / 1000000000 ≤ (x.2.2 - e1) * rate / 1000000000 := by
      refine Int.le_trans (div_add_le (by decide)) (Int.ediv_le_ediv (by decide) ?_)
      rw [← Int.add_mul]
      exact Int.mul_le_mul_of_nonneg_right (by omega) hr.1
    have h2 : longest ≤ mxi longest x.2.1 := by unfold mxi; split <;> omega
    omega
theorem Acc.ok {rate fr bytes longest cl last : Int} {q : List (Int × Int × Int)} (hr : U rate) (h0 : 0 < rate) (hf : fr ≤ cl) (hl : 0 ≤ longest) (hb : bytes ≤ 6000000) (h : Acc rate fr bytes longest cl q last) (hfr : 0 ≤ fr) : ¬ bytes > sat (by_ (cl - fr) rate + longest) := by
  have hX : 0 ≤ (cl - fr) * rate / 1000000000 := Int.ediv_nonneg (Int.mul_nonneg (by omega) hr.1) (by decide)
  unfold by_
  rw [if_neg (by omega), sat_add_l hl]
  have key : bytes ≤ longest + (cl - fr) * rate / 1000000000 := by
    rcases h with ⟨rfl, rfl⟩ | ⟨e1, E, g1, g2, g3, g4, g5⟩
    · omega
    · have : (E - e1) * rate / 1000000000 ≤ (cl - fr) * rate / 1000000000 := Int.ediv_le_ediv (by decide) (Int.mul_le_mul_of_nonneg_right (by omega) hr.1)
      omega
  have := le_sat (x := (cl - fr) * rate / 1000000000 + longest) (by omega : bytes ≤ _) (by omega)
  omega
/-- The line: what is upon the ring, what is still to be counted of what was done, what was counted. -/
structure LS (room : Nat) (rate : Int) (s : RS) (p q : List (Int × Int × Int)) (last bts : Int) (sh : Bool) (n cl fr bytes longest : Int) (ks : List Int) (len : Int → Int) : Prop where
  ring : Ring s room rate q cl last bts sh
  ur : U rate
  ucl : U cl
  fine : Fine (p ++ q)
  fr0 : 0 ≤ fr
  fr1 : fr ≤ cl
  nodup : ks.Nodup
  keys : ∀ k ∈ ks, k ≤ n
  lens : ∀ x ∈ p ++ q, x.1 ∈ ks ∧ len x.1 = x.2.1
  b0 : 0 ≤ bytes
  b1 : bytes + sumN (p ++ q) ≤ 65536 * n
  l0 : 0 ≤ longest
  l1 : longest ≤ 65536
  ch : ∃ lo, Ch rate lo (p ++ q) last
  lst : 0 ≤ last
  low : 0 < rate → cl < 18446744073709551615 → ∀ x ∈ p ++ q, fr < x.2.2
  acc : 0 < rate → cl < 18446744073709551615 → Acc rate fr bytes longest cl (p ++ q) last
  zero : rate = 0 → last ≤ cl ∧ ∀ x ∈ p ++ q, x.2.2 ≤ cl
  n0 : 0 ≤ n
theorem LS.new {room : Nat} {rate : Int} {s : RS} (h : Ring s room rate [] 0 0 0 false) (hr : U rate) : LS room rate s [] [] 0 0 false 0 0 0 0 0 [] (fun _ => 0) :=
  ⟨h, hr, (by decide), fun _ h => by simp at h, Int.le_refl _, Int.le_refl _, List.nodup_nil, fun _ h => by simp at h, fun _ h => by simp at h, Int.le_refl _, by simp [sumN], Int.le_refl _, by decide, ⟨0, Int.le_refl _⟩, Int.le_refl _, fun _ _ _ h => by simp at h, fun _ _ => .inl ⟨rfl, rfl⟩, fun _ => ⟨Int.le_refl _, fun _ h => by simp at h⟩, Int.le_refl _⟩
def putL (len : Int → Int) (k n : Int) : Int → Int := fun x => if x = k then n else len x
theorem LS.put {room : Nat} {rate : Int} {s s' : RS} {q : List (Int × Int × Int)} {last bts : Int} {sh : Bool} {n cl fr bytes longest : Int} {ks : List Int} {len : Int → Int} (h : LS room rate s [] q last bts sh n cl fr bytes longest ks len)
    (m now : Int) (hw : U now) (h1 : 1 ≤ m) (h2 : m ≤ 65536) {bts' : Int} {sh' : Bool} (hR : Ring s' room rate (q ++ [(n + 1, m, endAt cl last rate m now)]) (mxi cl now) (endAt cl last rate m now) bts' sh') :
    LS room rate s' [] (q ++ [(n + 1, m, endAt cl last rate m now)]) (endAt cl last rate m now) bts' sh' (n + 1) (mxi cl now) fr bytes longest (ks ++ [n + 1]) (putL len (n + 1) m) := by
  have hcl := h.ucl
  have hr := h.ur
  have hc1 : cl ≤ mxi cl now := by unfold mxi; split <;> omega
  have hc2 : U (mxi cl now) := U_mxi hcl hw
  have hl1 : last ≤ mxi (mxi cl now) last := by unfold mxi; split <;> omega
  have hl2 : mxi cl now ≤ mxi (mxi cl now) last := by unfold mxi; split <;> omega
  have ht0 := tm_nonneg (n := m) (by omega) hr
  have hend : endAt cl last rate m now = sat (mxi (mxi cl now) last + tm m rate) := rfl
  have hetop : endAt cl last rate m now ≤ 18446744073709551615 := by rw [hend]; exact sat_top _
  have hsum := sumN_snoc q (n + 1, m, endAt cl last rate m now)
  refine ⟨hR, hr, hc2, ?_, h.fr0, Int.le_trans h.fr1 hc1, ?_, ?_, ?_, h.b0, ?_, h.l0, h.l1, ?_, ?_, ?_, ?_, ?_, by have := h.n0; omega⟩
  · intro x hx
    simp only [List.nil_append, List.mem_append, List.mem_singleton] at hx
    rcases hx with hx | rfl
    · exact h.fine x (by simpa using hx)
    · exact ⟨h1, h2⟩
  · rw [List.nodup_append]
    refine ⟨h.nodup, by simp, fun a ha c hc => ?_⟩
    simp at hc; subst hc
    rintro rfl
    have := h.keys _ ha; omega
  · intro k hk
    rcases List.mem_append.1 hk with hk | hk
    · have := h.keys k hk; omega
    · simp at hk; omega
  · intro x hx
    simp only [List.nil_append, List.mem_append, List.mem_singleton] at hx
    rcases hx with hx | rfl
    · obtain ⟨g1, g2⟩ := h.lens x (by simpa using hx)
      refine ⟨by simp [g1], ?_⟩
      unfold putL
      rw [if_neg (by have := h.keys _ g1; omega)]; exact g2
    · exact ⟨by simp, by simp [putL]⟩
  · have := h.b1
    simp only [List.nil_append] at this ⊢
    rw [hsum]
    show bytes + (sumN q + m) ≤ 65536 * (n + 1)
    omega
  · obtain ⟨lo, hlo⟩ := h.ch
    exact ⟨lo, Ch.snoc (y := (n + 1, m, endAt cl last rate m now)) hlo (by rw [hend]; exact sat_mono (by show last + tm m rate ≤ _; omega)) hetop⟩
  · rw [hend]; exact (U_sat' (by have := h.lst; omega)).1
  · intro g0 gc x hx
    simp only [List.nil_append, List.mem_append, List.mem_singleton] at hx
    rcases hx with hx | rfl
    · exact h.low g0 (by omega) x (by simpa using hx)
    · have := tm_pos h1 hr g0
      have hfr := h.fr1
      have h3 := le_sat (n := fr + 1) (x := mxi (mxi cl now) last + tm m rate) (by omega) (by omega)
      rw [← hend] at h3
      show fr < endAt cl last rate m now
      omega
  · intro g0 gc
    rcases h.acc g0 (by omega) with ⟨a, b⟩ | ⟨e1, E, g1, g2, g3, g4, g5⟩
    · exact .inl ⟨a, b⟩
    · exact .inr ⟨e1, E, g1, g2, by omega, g4, Ch.snoc (y := (n + 1, m, endAt cl last rate m now)) g5 (by rw [hend]; exact sat_mono (by show last + tm m rate ≤ _; omega)) hetop⟩
  · intro g0
    obtain ⟨z1, z2⟩ := h.zero g0
    have htz : tm m rate = 0 := if_pos g0
    have he : endAt cl last rate m now = mxi cl now := by
      rw [hend, htz, Int.add_zero]
      have : mxi (mxi cl now) last = mxi cl now := by unfold mxi at *; (repeat' split) <;> omega
      rw [this, sat_U hc2]
    refine ⟨by rw [he]; exact Int.le_refl _, fun x hx => ?_⟩
    simp only [List.nil_append, List.mem_append, List.mem_singleton] at hx
    rcases hx with hx | rfl
    · have := z2 x (by simpa using hx); omega
    · show endAt cl last rate m now ≤ _; rw [he]; exact Int.le_refl _
/-- A packet more that is refused. -/
theorem LS.no {room : Nat} {rate : Int} {s : RS} {q : List (Int × Int × Int)} {last bts : Int} {sh : Bool} {n cl fr bytes longest : Int} {ks : List Int} {len : Int → Int} (h : LS room rate s [] q last bts sh n cl fr bytes longest ks len) :
    LS room rate s [] q last bts sh (n + 1) cl fr bytes longest ks len :=
  { h with keys := fun k hk => by have := h.keys k hk; omega, b1 := by have := h.b1; omega, n0 := by have := h.n0; omega }
theorem LS.done {room : Nat} {rate : Int} {s s' : RS} {q : List (Int × Int × Int)} {last bts : Int} {sh : Bool} {n cl fr bytes longest : Int} {ks : List Int} {len : Int → Int} (h : LS room rate s [] q last bts sh n cl fr bytes longest ks len)
    {c bts' : Int} {sh' : Bool} (hc : cl ≤ c) (hU : U c) (hR : Ring s' room rate (left c q) c last bts' sh') : LS room rate s' (ended c q) (left c q) last bts' sh' n c fr bytes longest ks len := by
  have e : ended c q ++ left c q = [] ++ q := by rw [ended_left]; rfl
  refine ⟨hR, h.ur, hU, e ▸ h.fine, h.fr0, Int.le_trans h.fr1 hc, h.nodup, h.keys, e ▸ h.lens, h.b0, e ▸ h.b1, h.l0, h.l1, e ▸ h.ch, h.lst, fun g0 gc => e ▸ h.low g0 (by omega), fun g0 gc => ?_, fun g0 => ?_, h.n0⟩
  · rw [e]
    rcases h.acc g0 (by omega) with ⟨a, b⟩ | ⟨e1, E, g1, g2, g3, g4, g5⟩
    · exact .inl ⟨a, b⟩
    · exact .inr ⟨e1, E, g1, g2, by omega, g4, g5⟩
  · rw [e]
    obtain ⟨z1, z2⟩ := h.zero g0
    exact ⟨by omega, fun x hx => by have := z2 x hx; omega⟩
theorem Ch.tail {rate : Int} {x : Int × Int × Int} {q : List (Int × Int × Int)} {last : Int} (h : ∃ lo, Ch rate lo (x :: q) last) : ∃ lo, Ch rate lo q last := by
  obtain ⟨lo, h⟩ := h; exact ⟨_, h.2.2⟩
/-- One of those that are done is counted. -/
theorem LS.count {room : Nat} {rate : Int} {s : RS} {x : Int × Int × Int} {p q : List (Int × Int × Int)} {last bts : Int} {sh : Bool} {n cl fr bytes longest : Int} {ks : List Int} {len : Int → Int} (h : LS room rate s (x :: p) q last bts sh n cl fr bytes longest ks len)
    (hx : x.2.2 ≤ cl) : LS room rate s p q last bts sh n cl fr (bytes + x.2.1) (mxi longest x.2.1) ks len := by
  obtain ⟨f1, f2⟩ := h.fine x (by simp)
  refine ⟨h.ring, h.ur, h.ucl, fun y hy => h.fine y (by simp at hy ⊢; exact .inr hy), h.fr0, h.fr1, h.nodup, h.keys, fun y hy => h.lens y (by simp at hy ⊢; exact .inr hy), by have := h.b0; omega, ?_, ?_, ?_, Ch.tail h.ch, h.lst, fun g0 gc y hy => h.low g0 gc y (by simp at hy ⊢; exact .inr hy), fun g0 gc => ?_, fun g0 => ⟨(h.zero g0).1, fun y hy => (h.zero g0).2 y (by simp at hy ⊢; exact .inr hy)⟩, h.n0⟩
  · have := h.b1
    simp only [List.cons_append, sumN] at this
    omega
  · have := h.l0; unfold mxi; split <;> omega
  · have := h.l1; unfold mxi; split <;> omega
  · exact (h.acc g0 gc).pop h.ur g0 gc h.ch (h.low g0 gc x (by simp)) h.fr0 hx f1 f2
/-- One of those that are done is not counted: nothing was, so far. -/
theorem LS.skip {room : Nat} {rate : Int} {s : RS} {x : Int × Int × Int} {p q : List (Int × Int × Int)} {last bts : Int} {sh : Bool} {n cl fr : Int} {ks : List Int} {len : Int → Int} (h : LS room rate s (x :: p) q last bts sh n cl fr 0 0 ks len) :
    LS room rate s p q last bts sh n cl fr 0 0 ks len := by
  obtain ⟨f1, f2⟩ := h.fine x (by simp)
  refine ⟨h.ring, h.ur, h.ucl, fun y hy => h.fine y (by simp at hy ⊢; exact .inr hy), h.fr0, h.fr1, h.nodup, h.keys, fun y hy => h.lens y (by simp at hy ⊢; exact .inr hy), Int.le_refl _, ?_, Int.le_refl _, by decide, Ch.tail h.ch, h.lst, fun g0 gc y hy => h.low g0 gc y (by simp at hy ⊢; exact .inr hy), fun g0 gc => .inl ⟨rfl, rfl⟩, fun g0 => ⟨(h.zero g0).1, fun y hy => (h.zero g0).2 y (by simp at hy ⊢; exact .inr hy)⟩, h.n0⟩
  have := h.b1
  simp only [List.cons_append, sumN] at this
  omega
/-- A look, ahead of which nothing is counted. -/
theorem LS.look {room : Nat} {rate : Int} {s : RS} {q q0 : List (Int × Int × Int)} {last bts : Int} {sh : Bool} {n cl fr : Int} {ks : List Int} {len : Int → Int} (h : LS room rate s [] q last bts sh n cl fr 0 0 ks len) (hq : q = left cl q0) :
    LS room rate s [] q last bts sh n cl cl 0 0 ks len := by
  refine { h with fr0 := h.ucl.1, fr1 := Int.le_refl _, low := fun g0 gc x hx => ?_, acc := fun _ _ => .inl ⟨rfl, rfl⟩ }
  have hx' : x ∈ q := by simpa using hx
  cases hqq : q with
  | nil => rw [hqq] at hx'; simp at hx'
  | cons y r =>
    have hy : ¬ y.2.2 ≤ cl := by
      have hh : (left cl q0).head? = some y := by rw [← hq, hqq]; rfl
      intro hle
      unfold left at hh
      have := List.head?_dropWhile_not (fun x : Int × Int × Int => decide (x.2.2 ≤ cl)) q0
      rw [hh] at this
      simp at this
      omega
    obtain ⟨lo, hlo⟩ := h.ch
    have hf := h.fine
    simp only [List.nil_append] at hlo hf
    rw [hqq] at hlo hx' hf
    rcases List.mem_cons.1 hx' with rfl | hx'
    · omega
    · have := Ch.ge h.ur hlo.2.2 (fun z hz => hf z (by simp [hz])) hlo.2.1 x hx'
      omega
theorem ended_le {c : Int} : ∀ {q : List (Int × Int × Int)}, ∀ x ∈ ended c q, x.2.2 ≤ c
  | [], x, hx => by simp [ended] at hx
  | y :: q, x, hx => by
    unfold ended at hx
    rw [List.takeWhile_cons] at hx
    split at hx
    · rename_i h
      rcases List.mem_cons.1 hx with rfl | hx
      · simpa using h
      · exact ended_le (q := q) x hx
    · simp at hx
theorem left_zero {c : Int} : ∀ {q : List (Int × Int × Int)}, (∀ x ∈ q, x.2.2 ≤ c) → left c q = []
  | [], _ => rfl
  | y :: q, h => by
    unfold left
    rw [List.dropWhile_cons, if_pos (by simpa using h y (by simp))]
    exact left_zero (q := q) fun x hx => h x (by simp [hx])
end Go.Proofs.Ythpcdpnolmacpaa.IR
