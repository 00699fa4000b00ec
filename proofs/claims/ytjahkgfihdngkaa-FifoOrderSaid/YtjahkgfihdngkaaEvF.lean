/- This text of the evaluator proves: the steps of a walk. No condition. -/
import Derived.Test.YtjahkgfihdngkaaEvE
set_option linter.unusedVariables false
set_option linter.unusedSimpArgs false
set_option linter.constructorNameAsVariable false
/- Laws for runs told step by step: regions whose order does not matter at all, rows of equal elements, numbers that do not wrap, the state told anew. -/
namespace Go.Proofs.Ytjahkgfihdngkaa.Ev
open Go
variable {P : Program} {N m : Nat}

-- regions whose drawn order is settled where it matters
def acts : RItem → Bool
  | .call _ _ _ _ => true
  | .any _ _ _ => true
  | .op _ _ io => io.sort == 3
def looks : RItem → Bool
  | .call _ _ _ _ => false
  | .any _ _ _ => false
  | .op _ _ io => io.sort == 1 || io.sort == 2
def statOk (pre : Nat → Nat → Bool) (its : List RItem) : List Nat → List Nat → Bool
  | _, [] => true
  | seen, i :: r => match its[i]? with
    | none => false
    | some it => (!acts it || seen.all (fun x => pre x i)) && statOk pre its (if looks it then i :: seen else seen) r
def inOrd (its : List RItem) : List Nat → List RItem
  | [] => []
  | i :: r => match its[i]? with
    | some it => it :: inOrd its r
    | none => []

theorem EvD_of_items {pre : Nat → Nat → Bool} {its : List RItem} {K : Env → Heap → Prop} : ∀ (ord seen : List Nat) (wt : Watch) (ρ : Env) (H : Heap), statOk pre its seen ord = true → (∀ x ∈ wt, x.1 ∈ seen) →
    EvItems P (inOrd its ord) ρ H K → EvD P pre its ord wt ρ H K
  | [], _, _, _, _, _, _, h => h
  | i :: r, seen, wt, ρ, H, hs, hw, h => by
    simp only [statOk] at hs
    simp only [EvD]
    cases hi : its[i]? with
    | none => rw [hi] at hs; cases hs
    | some it =>
      rw [hi] at hs
      simp only [Bool.and_eq_true] at hs
      obtain ⟨h1, h2⟩ := hs
      simp only [inOrd, hi, EvItems] at h
      have hmore : ∀ (j : List Nat), (∀ y ∈ seen, y ∈ j) → ∀ x ∈ wt, x.1 ∈ j := fun j hj x hx => hj _ (hw x hx)
      have hsub : ∀ y ∈ seen, y ∈ (if looks it then i :: seen else seen) := by intro y hy; split; exact List.mem_cons_of_mem _ hy; exact hy
      have hre : acts it = true → ∀ H', recheck pre wt i H' := by
        intro ha H' x hx
        simp only [ha, Bool.not_true, Bool.false_or, List.all_eq_true] at h1
        exact .inl (h1 _ (hw x hx))
      simp only []
      split
      · rename_i hg; rw [hg] at h; exact h
      · rename_i hg; rw [hg] at h
        exact EvD_of_items r _ wt _ H h2 (hmore _ hsub) h
      · rename_i hg; rw [hg] at h
        simp only at h
        cases it with
        | call d g f xs =>
          simp only [EvItem] at h ⊢
          split
          · rename_i f' a b hf
            rw [hf] at h
            exact h.mono fun v H' q => ⟨hre rfl H', EvD_of_items r _ wt _ H' h2 (hmore _ hsub) q⟩
          · rename_i id hf
            rw [hf] at h
            exact YieldM.mono h fun v H' q => ⟨hre rfl H', EvD_of_items r _ wt _ H' h2 (hmore _ hsub) q⟩
          · rename_i hf hf2
            split at h
            · rename_i f' a b hf'; exact absurd hf' (hf _ _ _)
            · rename_i id hf'; exact absurd hf' (hf2 _)
            · exact h
        | any d g no =>
          simp only [EvItem] at h ⊢
          split
          · rename_i l hl
            rw [hl] at h
            exact fun x hx => ⟨hre rfl x.2, EvD_of_items r _ wt _ x.2 h2 (hmore _ hsub) (h x hx)⟩
          · rename_i hl; rw [hl] at h; exact h
        | op d g io =>
          simp only [EvItem] at h ⊢
          split
          · rename_i hst; rw [hst] at h; exact h
          · rename_i v H' hst; rw [hst] at h
            simp only at h
            split
            · rename_i h3
              exact ⟨hre (by simp [acts, h3]) H', EvD_of_items r _ wt _ H' h2 (hmore _ hsub) h⟩
            · split
              · rename_i h3
                refine EvD_of_items r _ _ _ H' h2 ?_ h
                intro x hx
                rcases List.mem_cons.1 hx with rfl | hx
                · simp [looks, h3]
                · exact hmore _ hsub x hx
              · split
                · rename_i h3
                  refine EvD_of_items r _ _ _ H' h2 ?_ h
                  intro x hx
                  rcases List.mem_cons.1 hx with rfl | hx
                  · simp [looks, h3]
                  · exact hmore _ hsub x hx
                · exact EvD_of_items r _ wt _ H' h2 (hmore _ hsub) h

theorem ei_dregS {its : List RItem} {ord ms : List Nat} {ρ : Env} {H : Heap} {Q : Exit → Env → Heap → Prop} (hs : statOk (preOf ms) its [] ord = true) (h : EvItems P (inOrd its ord) ρ H (fun ρ' H' => Q .normal ρ' H')) : EvI P N m (.dreg its ord ms) ρ H Q :=
  ei_dreg (EvD_of_items ord [] [] ρ H hs (fun x hx => by cases hx) h)

theorem look_more {io : IOp} {e : Opd → Val} {H : Heap} {v : Val} (h1 : io.sort = 1) (h : io.step e H = some (v, H)) (J : Heap) : io.step e (H ++ J) = some (v, H ++ J) := by
  have hg : ∀ (id : Nat) (o : AObj), H[id]? = some o → (H ++ J)[id]? = some o := fun id o ho => by
    rw [List.getElem?_append_left (List.getElem?_eq_some_iff.1 ho).1]; exact ho
  cases io with
  | ld1 a =>
    simp only [IOp.step] at h ⊢
    split at h
    · rename_i id off hp
      split at h
      · rename_i c hc; rw [hg _ _ hc]; simp only
        obtain ⟨x, hx, h5⟩ := Option.map_eq_some_iff.1 h
        cases h5; rw [hx]; rfl
      · rename_i c hc; rw [hg _ _ hc]; simp only
        obtain ⟨x, hx, h5⟩ := Option.map_eq_some_iff.1 h
        cases h5; rw [hx]; rfl
      · cases h
    · cases h
  | ldn n a =>
    simp only [IOp.step] at h ⊢
    split at h
    · rename_i id off hp
      split at h
      · rename_i c hc; rw [hg _ _ hc]; simp only
        split at h
        · rename_i hl; rw [if_pos hl]; cases h; rfl
        · cases h
      · rename_i c hc; rw [hg _ _ hc]; simp only
        split at h
        · rename_i hl; rw [if_pos hl]; cases h; rfl
        · cases h
      · cases h
    · cases h
  | len k x =>
    simp only [IOp.step] at h ⊢
    split at h
    · rename_i hk
      rw [if_pos hk]
      obtain ⟨y, hy, h5⟩ := Option.map_eq_some_iff.1 h
      cases h5
      have : lenOf (e x) (H ++ J) = some v := by
        unfold lenOf at hy ⊢
        split at hy
        · exact hy
        · exact hy
        · exact hy
        · exact hy
        · split at hy
          · rename_i es hes; rw [hg _ _ hes]; exact hy
          · cases hy
        · cases hy
      rw [this]; rfl
    · cases h
  | ent x =>
    simp only [IOp.step] at h ⊢
    split at h
    · split at h
      · rename_i mid since seen last ho
        split at h
        · rename_i b es ck hb hom
          rw [hg _ _ ho]
          simp only [hb, hg _ _ hom]
          split at h
          · rename_i hq
            rw [if_pos hq]
            split at h
            · cases h; rfl
            · cases h
          · cases h
        · cases h
      · cases h
    · cases h
  | lkp kk ok z x ix =>
    simp only [IOp.step] at h ⊢
    split at h
    · rename_i hk
      rw [if_pos hk]
      split at h
      · cases h; rfl
      · split at h
        · rename_i es ck hes
          rw [hg _ _ hes]
          simp only
          split at h
          · cases h; rfl
          · cases h; rfl
          · cases h
        · cases h
      · cases h
    · cases h
  | _ => cases h1

/-- As EvItems; a call leaves the objects as they are. -/
def EvItemsP (P : Program) : List RItem → Env → Heap → (Env → Heap → Prop) → Prop
  | [], ρ, H, K => K ρ H
  | it :: r, ρ, H, K => match guardOk it.g ρ with
    | some true => EvItem P it (Opd.ev ρ) H (fun v H' => (∀ d g f xs, it = .call d g f xs → H' = H) ∧ EvItemsP P r (putv it.d v ρ) H' K)
    | some false => EvItemsP P r (putv it.d skipV ρ) H K
    | none => False
def isSt : RItem → Bool
  | .call _ _ _ _ => false
  | .any _ _ _ => true
  | .op _ _ io => io.sort == 3
def statP (pre : Nat → Nat → Bool) (its : List RItem) : Bool → List Nat → List Nat → Bool
  | _, _, [] => true
  | dirty, seen, i :: r => match its[i]? with
    | none => false
    | some it => (!(isSt it || (acts it && dirty)) || seen.all (fun x => pre x i)) && statP pre its (dirty || isSt it) (if looks it then i :: seen else seen) r

theorem EvD_of_itemsP {pre : Nat → Nat → Bool} {its : List RItem} {K : Env → Heap → Prop} : ∀ (ord : List Nat) (dirty : Bool) (seen : List Nat) (wt : Watch) (ρ : Env) (H : Heap), statP pre its dirty seen ord = true → (∀ x ∈ wt, x.1 ∈ seen) →
    (dirty = false → ∀ x ∈ wt, ∀ J, x.2 (H ++ J)) → EvItemsP P (inOrd its ord) ρ H K → EvD P pre its ord wt ρ H K
  | [], _, _, _, _, _, _, _, _, h => h
  | i :: r, dirty, seen, wt, ρ, H, hs, hw, hd, h => by
    simp only [statP] at hs
    simp only [EvD]
    cases hi : its[i]? with
    | none => rw [hi] at hs; cases hs
    | some it =>
      rw [hi] at hs
      simp only [Bool.and_eq_true] at hs
      obtain ⟨h1, h2⟩ := hs
      simp only [inOrd, hi, EvItemsP] at h
      have hmore : ∀ (j : List Nat), (∀ y ∈ seen, y ∈ j) → ∀ x ∈ wt, x.1 ∈ j := fun j hj x hx => hj _ (hw x hx)
      have hsub : ∀ y ∈ seen, y ∈ (if looks it then i :: seen else seen) := by intro y hy; split; exact List.mem_cons_of_mem _ hy; exact hy
      have hdd : (dirty || isSt it) = false → dirty = false := by intro q; cases dirty; rfl; cases q
      have hre : (isSt it || (acts it && dirty)) = true → ∀ H', recheck pre wt i H' := by
        intro ha H' x hx
        simp only [ha, Bool.not_true, Bool.false_or, List.all_eq_true] at h1
        exact .inl (h1 _ (hw x hx))
      simp only []
      split
      · rename_i hg; rw [hg] at h; exact h
      · rename_i hg; rw [hg] at h
        exact EvD_of_itemsP r _ _ wt _ H h2 (hmore _ hsub) (fun q => hd (hdd q)) h
      · rename_i hg; rw [hg] at h
        simp only at h
        cases it with
        | call d g f xs =>
          simp only [EvItem] at h ⊢
          split
          · rename_i f' a b hf
            rw [hf] at h
            refine h.mono fun v H' q => ?_
            obtain ⟨q1, q2⟩ := q
            have e := q1 _ _ _ _ rfl
            subst e
            refine ⟨?_, EvD_of_itemsP r _ _ wt _ H' h2 (hmore _ hsub) (fun q => hd (hdd q)) q2⟩
            cases hdi : dirty with
            | true => exact hre (by simp [isSt, acts, hdi]) H'
            | false => exact fun x hx => .inr (by simpa using hd hdi x hx [])
          · rename_i id hf
            rw [hf] at h
            refine YieldM.mono h fun v H' q => ?_
            obtain ⟨q1, q2⟩ := q
            have e := q1 _ _ _ _ rfl
            subst e
            refine ⟨?_, EvD_of_itemsP r _ _ wt _ H' h2 (hmore _ hsub) (fun q => hd (hdd q)) q2⟩
            cases hdi : dirty with
            | true => exact hre (by simp [isSt, acts, hdi]) H'
            | false => exact fun x hx => .inr (by simpa using hd hdi x hx [])
          · rename_i hf hf2
            split at h
            · rename_i f' a b hf'; exact absurd hf' (hf _ _ _)
            · rename_i id hf'; exact absurd hf' (hf2 _)
            · exact h
        | any d g no =>
          simp only [EvItem] at h ⊢
          split
          · rename_i l hl
            rw [hl] at h
            exact fun x hx => ⟨hre (by simp [isSt]) x.2, EvD_of_itemsP r _ _ wt _ x.2 h2 (hmore _ hsub) (fun q => absurd q (by simp [isSt])) (h x hx).2⟩
          · rename_i hl; rw [hl] at h; exact h
        | op d g io =>
          simp only [EvItem] at h ⊢
          split
          · rename_i hst; rw [hst] at h; exact h
          · rename_i v H' hst; rw [hst] at h
            simp only at h
            have hk := h.2
            clear h
            split
            · rename_i h3
              exact ⟨hre (by simp [isSt, h3]) H', EvD_of_itemsP r _ _ wt _ H' h2 (hmore _ hsub) (fun q => by simp [isSt, h3] at q) hk⟩
            · rename_i hn3
              have hsame : io.sort = 1 ∨ io.sort = 0 → H' = H := fun q => quiet_step hst q.symm
              split
              · rename_i h3
                obtain ⟨fv, l, _, _, hH⟩ := fresh_step hst h3
                refine EvD_of_itemsP r _ _ _ _ H' h2 ?_ (fun q => ?_) hk
                · intro x hx
                  rcases List.mem_cons.1 hx with rfl | hx
                  · simp [looks, h3]
                  · exact hmore _ hsub x hx
                · intro x hx J
                  rcases List.mem_cons.1 hx with rfl | hx
                  · simp only [hH]
                    rw [List.getElem?_append_left (by simp)]
                  · rw [hH, List.append_assoc]
                    exact hd (hdd q) x hx _
              · split
                · rename_i h3
                  have e := hsame (.inl h3)
                  subst e
                  refine EvD_of_itemsP r _ _ _ _ H' h2 ?_ (fun q => ?_) hk
                  · intro x hx
                    rcases List.mem_cons.1 hx with rfl | hx
                    · simp [looks, h3]
                    · exact hmore _ hsub x hx
                  · intro x hx J
                    rcases List.mem_cons.1 hx with rfl | hx
                    · exact look_more h3 hst J
                    · exact hd (hdd q) x hx J
                · rename_i hn2 hn1
                  have e := hsame (.inr (by have : io.sort ≤ 3 := by (cases io <;> simp only [IOp.sort] <;> (try split) <;> omega)
                                            omega))
                  subst e
                  exact EvD_of_itemsP r _ _ wt _ H' h2 (hmore _ hsub) (fun q => hd (hdd q)) hk

theorem ei_dregP {its : List RItem} {ord ms : List Nat} {ρ : Env} {H : Heap} {Q : Exit → Env → Heap → Prop} (hs : statP (preOf ms) its false [] ord = true) (h : EvItemsP P (inOrd its ord) ρ H (fun ρ' H' => Q .normal ρ' H')) : EvI P N m (.dreg its ord ms) ρ H Q :=
  ei_dreg (EvD_of_itemsP ord false [] [] ρ H hs (fun x hx => by cases hx) (fun _ x hx => by cases hx) h)

-- numbers
theorem wrap_i64 {x : Int} (h : -9223372036854775808 ≤ x ∧ x ≤ 9223372036854775807) : IntKind.i64.wrap x = x := by
  have e : IntKind.i64.wrap x = if x % 18446744073709551616 ≥ 9223372036854775808 then x % 18446744073709551616 - 18446744073709551616 else x % 18446744073709551616 := by
    unfold IntKind.wrap
    by_cases hc : x % 18446744073709551616 ≥ 9223372036854775808
    · rw [if_pos hc]
      exact if_pos (by rw [Bool.and_eq_true]; exact ⟨rfl, decide_eq_true hc⟩)
    · rw [if_neg hc]
      exact if_neg (by rw [Bool.and_eq_true]; exact fun h => hc (of_decide_eq_true h.2))
  rw [e]
  split <;> omega
theorem wrap_u64 {x : Int} (h : 0 ≤ x ∧ x ≤ 18446744073709551615) : IntKind.u64.wrap x = x := by
  simp only [IntKind.wrap, IntKind.bits, IntKind.signed]
  simp only [Bool.false_and, Bool.false_eq_true, if_false]
  omega
theorem wrap_u64_range (x : Int) : 0 ≤ IntKind.u64.wrap x ∧ IntKind.u64.wrap x ≤ 18446744073709551615 := by
  simp only [IntKind.wrap, IntKind.bits, IntKind.signed]
  simp only [Bool.false_and, Bool.false_eq_true, if_false]
  omega
theorem wrap_u64_eq (x : Int) : IntKind.u64.wrap x = x % 18446744073709551616 := by
  simp only [IntKind.wrap, IntKind.bits, IntKind.signed]
  simp only [Bool.false_and, Bool.false_eq_true, if_false]
  rfl
theorem wrap_u8 {x : Int} (h : 0 ≤ x ∧ x ≤ 255) : IntKind.u8.wrap x = x := by
  simp only [IntKind.wrap, IntKind.bits, IntKind.signed]
  simp only [Bool.false_and, Bool.false_eq_true, if_false]
  omega
theorem wrap_u16 {x : Int} (h : 0 ≤ x ∧ x ≤ 65535) : IntKind.u16.wrap x = x := by
  simp only [IntKind.wrap, IntKind.bits, IntKind.signed]
  simp only [Bool.false_and, Bool.false_eq_true, if_false]
  omega
theorem wrap_u32 {x : Int} (h : 0 ≤ x ∧ x ≤ 4294967295) : IntKind.u32.wrap x = x := by
  simp only [IntKind.wrap, IntKind.bits, IntKind.signed]
  simp only [Bool.false_and, Bool.false_eq_true, if_false]
  omega
theorem tmod_nn {a b : Int} (h : 0 ≤ a) : a.tmod b = a % b := Int.tmod_eq_emod_of_nonneg h
theorem tdiv_nn {a b : Int} (h : 0 ≤ a) : a.tdiv b = a / b := Int.tdiv_eq_ediv_of_nonneg h
theorem if_yes {α : Sort _} {c : Prop} [Decidable c] {a b : α} (h : c) : (if c then a else b) = a := if_pos h
theorem if_no {α : Sort _} {c : Prop} [Decidable c] {a b : α} (h : ¬ c) : (if c then a else b) = b := if_neg h
theorem z1 : ((1 : Nat) = 0) = False := by simp
theorem z2 : ((0 : Nat) = 1) = False := by simp

-- rows of equal elements
theorem getElem?_flat {α : Type} {vals : α → List Val} {k : Nat} (hk : ∀ x, (vals x).length = k) : ∀ (l : List α) (i j : Nat) (x : α), l[i]? = some x → j < k → (l.flatMap vals)[i * k + j]? = (vals x)[j]?
  | [], i, j, x, h, hj => by simp at h
  | y :: l, 0, j, x, h, hj => by
    simp at h; subst h
    simp only [List.flatMap_cons, Nat.zero_mul, Nat.zero_add]
    rw [List.getElem?_append_left (by rw [hk]; exact hj)]
  | y :: l, i + 1, j, x, h, hj => by
    simp at h
    simp only [List.flatMap_cons]
    rw [List.getElem?_append_right (by rw [hk, Nat.add_mul]; omega), hk, ← getElem?_flat hk l i j x h hj]
    congr 1
    rw [Nat.add_mul]; omega

theorem drop_take_flat {α : Type} {vals : α → List Val} {k : Nat} (hk : ∀ x, (vals x).length = k) (l : List α) (i : Nat) (x : α) (h : l[i]? = some x) : ((l.flatMap vals).drop (i * k)).take k = vals x := by
  apply List.ext_getElem?
  intro j
  rw [List.getElem?_take, List.getElem?_drop]
  by_cases hj : j < k
  · rw [if_pos hj, getElem?_flat hk l i j x h hj]
  · rw [if_neg hj, List.getElem?_eq_none (by rw [hk]; omega)]

theorem wr_get (c : List Val) (off : Nat) (l : List Val) (j : Nat) : off + l.length ≤ c.length → (wr c off l)[j]? = if off ≤ j ∧ j < off + l.length then l[j - off]? else c[j]? := by
  induction l generalizing c off with
  | nil => intro _; simp only [wr, List.length_nil, Nat.add_zero]; rw [if_neg (by omega)]
  | cons v l ih =>
    intro h
    simp only [List.length_cons] at h ⊢
    rw [wr, ih (c.set off v) (off + 1) (by simp; omega)]
    by_cases h1 : off + 1 ≤ j ∧ j < off + 1 + l.length
    · rw [if_pos h1, if_pos (by omega)]
      rw [show j - off = (j - (off + 1)) + 1 by omega, List.getElem?_cons_succ]
    · rw [if_neg h1]
      by_cases h2 : j = off
      · subst h2
        rw [if_pos (by omega), Nat.sub_self, List.getElem?_cons_zero, List.getElem?_set_self (by omega)]
      · rw [if_neg (by omega), List.getElem?_set_ne (by omega)]

theorem wr_flat {α : Type} {vals : α → List Val} {k : Nat} (hk : ∀ x, (vals x).length = k) (l : List α) (i : Nat) (x : α) (h : i < l.length) : wr (l.flatMap vals) (i * k) (vals x) = (l.set i x).flatMap vals := by
  have hlen : i * k + k ≤ l.length * k := by
    have := Nat.mul_le_mul_right k (show i + 1 ≤ l.length by omega)
    rw [Nat.add_mul] at this; omega
  apply List.ext_getElem?
  intro j
  rw [wr_get _ _ _ _ (by rw [hk, flat_len hk]; exact hlen), hk]
  by_cases hj : j < l.length * k
  · have hk0 : 0 < k := by
      rcases Nat.eq_zero_or_pos k with h0 | h0
      · subst h0; simp at hj
      · exact h0
    have hq : j / k < l.length := Nat.div_lt_of_lt_mul (by rw [Nat.mul_comm]; exact hj)
    have hj' : j = (j / k) * k + j % k := by rw [Nat.mul_comm]; exact (Nat.div_add_mod j k).symm
    have hr := Nat.mod_lt j hk0
    have e2 := getElem?_flat hk (l.set i x) (j / k) (j % k) ((l.set i x)[j / k]'(by simpa using hq)) (List.getElem?_eq_getElem _) hr
    have e1 := getElem?_flat hk l (j / k) (j % k) (l[j / k]) (List.getElem?_eq_getElem _) hr
    rw [← hj'] at e1 e2
    rw [e1, e2]
    by_cases hi : j / k = i
    · subst hi
      rw [if_pos (by omega)]
      simp only [List.getElem_set_self]
      congr 1
      omega
    · rw [if_neg, List.getElem_set_ne (Ne.symm hi)]
      intro hc
      apply hi
      have a1 : j / k * k ≤ j := Nat.div_mul_le_self j k
      rcases Nat.lt_trichotomy (j / k) i with g | g | g
      · have := Nat.mul_le_mul_right k (show j / k + 1 ≤ i by omega)
        rw [Nat.add_mul] at this
        omega
      · exact g
      · have := Nat.mul_le_mul_right k (show i + 1 ≤ j / k by omega)
        rw [Nat.add_mul] at this
        omega
  · rw [if_neg (by omega), List.getElem?_eq_none (by rw [flat_len hk]; omega), List.getElem?_eq_none (by rw [flat_len hk]; simp; omega)]

theorem renL_closed (ι : Nat → Nat) : ∀ l : List Val, (∀ v ∈ l, v.ren ι = v) → renL ι l = l
  | [], _ => rfl
  | v :: l, h => by simp only [renL]; rw [h v (by simp), renL_closed ι l (fun x hx => h x (by simp [hx]))]
theorem renL_flat {α : Type} {vals : α → List Val} (ι : Nat → Nat) (l : List α) (h : ∀ x, renL ι (vals x) = vals x) : renL ι (l.flatMap vals) = l.flatMap vals := by
  rw [renL_map, List.map_flatMap]
  congr 1
  funext x
  rw [← renL_map, h]
theorem renL_append (ι : Nat → Nat) (a b : List Val) : renL ι (a ++ b) = renL ι a ++ renL ι b := by simp [renL_map]
theorem wfL_append (m : Nat) : ∀ a b : List Val, wfL m (a ++ b) = (wfL m a && wfL m b)
  | [], b => by simp [wfL]
  | v :: a, b => by simp [wfL, wfL_append m a b, Bool.and_assoc]
theorem wfL_flat {α : Type} {vals : α → List Val} (m : Nat) (h : ∀ x, wfL m (vals x) = true) : ∀ l : List α, wfL m (l.flatMap vals) = true
  | [] => rfl
  | x :: l => by rw [List.flatMap_cons, wfL_append, h, wfL_flat m h l]; rfl

-- the state told anew, object by object
def embAt (ι : Nat → Nat) (H : Heap) : List Nat → Heap → Prop
  | _, [] => True
  | i :: r, o :: C => H[i]? = some (o.ren ι) ∧ embAt ι H r C
  | [], _ :: _ => False
def wfAll (m : Nat) : Heap → Prop
  | [] => True
  | o :: C => o.wf m = true ∧ wfAll m C
def nm (ids : List Nat) : Nat → Nat := fun x => ids.getD x 0
theorem embAt_get {ι : Nat → Nat} {H : Heap} : ∀ {ids : List Nat} {C : Heap}, embAt ι H ids C → ∀ (x : Nat) (o : AObj), C[x]? = some o → H[ids.getD x 0]? = some (o.ren ι)
  | _, [], _, x, o, h => by simp at h
  | i :: r, c :: C, h, 0, o, hx => by simp at hx; subst hx; exact h.1
  | i :: r, c :: C, h, x + 1, o, hx => by
    simp only [List.getElem?_cons_succ] at hx
    simpa using embAt_get h.2 x o hx
  | [], _ :: _, h, _, _, _ => h.elim
theorem wfAll_get {m : Nat} : ∀ {C : Heap}, wfAll m C → ∀ (x : Nat) (o : AObj), C[x]? = some o → o.wf m = true
  | [], _, x, o, h => by simp at h
  | c :: C, h, 0, o, hx => by simp at hx; subst hx; exact h.1
  | c :: C, h, x + 1, o, hx => wfAll_get h.2 x o (by simpa using hx)
theorem nodup_inj {ids : List Nat} (h : ids.Nodup) : ∀ x y, x < ids.length → y < ids.length → nm ids x = nm ids y → x = y := by
  intro x y hx hy he
  simp only [nm, List.getD_eq_getElem?_getD, List.getElem?_eq_getElem hx, List.getElem?_eq_getElem hy, Option.getD_some] at he
  have hp := List.pairwise_iff_getElem.1 h
  rcases Nat.lt_trichotomy x y with g | g | g
  · exact absurd he (hp x y hx hy g)
  · exact g
  · exact absurd he.symm (hp y x hy hx g)
theorem emb_of {ids : List Nat} {C H : Heap} (hlen : ids.length = C.length) (hnd : ids.Nodup) (hat : embAt (nm ids) H ids C) (hw : wfAll C.length C) : Emb (nm ids) C H where
  inj x y hx hy := nodup_inj hnd x y (by omega) (by omega)
  at_ := embAt_get hat
  wf := wfAll_get hw

theorem get_absent : ∀ (ρ : Env) (t : Nat), (∀ x ∈ ρ, x.1 ≠ t) → ρ.get t = .u
  | [], _, _ => rfl
  | (k, v) :: r, t, h => by
    simp only [Env.get]
    rw [if_neg (h (k, v) (by simp))]
    exact get_absent r t fun x hx => h x (by simp [hx])

/-- The state told anew: the objects `ids` of H are the objects of C. -/
theorem ei_anew (ids : List Nat) (C : Heap) (ρ0 : Env) {ic : ICode} {ρ : Env} {H : Heap} {Q : Exit → Env → Heap → Prop} (hlen : ids.length = C.length) (hnd : ids.Nodup) (hat : embAt (nm ids) H ids C) (hw : wfAll C.length C)
    (hm : m ≤ C.length) (hid : ids.take m = List.range m) (hρ : ρ0.all (fun x => wfL C.length [x.2]) = true) (hρ' : ∀ x ∈ ρ0, ρ.get x.1 = (ρ0.get x.1).ren (nm ids)) (h : EvI P N m ic ρ0 C Q) : EvI P N m ic ρ H Q := by
  refine EvI.rename (ρ0 := ρ0) (emb_of hlen hnd hat hw) hm ?_ ?_ ?_ h
  · intro x hx
    have : (ids.take m)[x]? = (List.range m)[x]? := by rw [hid]
    rw [List.getElem?_take, if_pos hx, List.getElem?_range hx] at this
    simp [nm, this]
  · intro t
    rw [renEnv_get]
    by_cases ht : ∃ x ∈ ρ0, x.1 = t
    · obtain ⟨x, hx, rfl⟩ := ht
      exact .inl (hρ' x hx)
    · exact .inr (get_absent ρ0 t fun x hx e => ht ⟨x, hx, e⟩)
  · simp only [wfEnv, List.all_eq_true] at hρ ⊢
    intro x hx
    have := hρ x hx
    simpa [wfL] using this
end Go.Proofs.Ytjahkgfihdngkaa.Ev
/- Runs told step by step: one rule for each kind of step. -/
namespace Go.Proofs.Ytjahkgfihdngkaa.Ev
open Go
variable {P : Program} {N m : Nat}

/-- The items of a region, one behind the other. -/
structure Run (P : Program) (its : List RItem) (ρ : Env) (H : Heap) (K : Env → Heap → Prop) : Prop where
  out : EvItems P its ρ H K

section
variable {its r : List RItem} {ρ : Env} {H H' : Heap} {K : Env → Heap → Prop} {d t : Nat} {v : Val} {io : IOp} {b : Bool}
theorem Ea (h : K ρ H) : Run P [] ρ H K := ⟨h⟩
theorem Aa (h : io.step (Opd.ev ρ) H = some (v, H')) (k : Run P r ((d, v) :: ρ) H' K) : Run P (.op (some d) none io :: r) ρ H K :=
  ⟨by simp only [EvItems, guardOk, EvItem, RItem.g, RItem.d, h, putv]; exact k.out⟩
theorem Ab (h : io.step (Opd.ev ρ) H = some (v, H')) (k : Run P r ρ H' K) : Run P (.op none none io :: r) ρ H K :=
  ⟨by simp only [EvItems, guardOk, EvItem, RItem.g, RItem.d, h, putv]; exact k.out⟩
theorem Ag (hg : ρ.get t = .b b) (h : io.step (Opd.ev ρ) H = some (v, H')) (k : Run P r ((d, v) :: ρ) H' K) : Run P (.op (some d) (some (t, b)) io :: r) ρ H K :=
  ⟨by simp only [EvItems, guardOk, EvItem, RItem.g, RItem.d, h, putv, hg, BEq.rfl]; exact k.out⟩
theorem Ba (hg : ρ.get t = .b (!b)) (k : Run P r ((d, skipV) :: ρ) H K) : Run P (.op (some d) (some (t, b)) io :: r) ρ H K :=
  ⟨by simp only [EvItems, guardOk, RItem.g, RItem.d, putv, hg, Bool.not_beq_self]; exact k.out⟩
theorem Run.opN0 (hg : ρ.get t = .b (!b)) (k : Run P r ρ H K) : Run P (.op none (some (t, b)) io :: r) ρ H K :=
  ⟨by simp only [EvItems, guardOk, RItem.g, RItem.d, putv, hg, Bool.not_beq_self]; exact k.out⟩
theorem Ca (hg : ρ.get t = skipV) (k : Run P r ((d, skipV) :: ρ) H K) : Run P (.op (some d) (some (t, b)) io :: r) ρ H K :=
  ⟨by simp only [EvItems, guardOk, RItem.g, RItem.d, putv, hg, skipV]; exact k.out⟩
theorem Cb {f : Opd} {xs : List Opd} (hg : ρ.get t = skipV) (k : Run P r ((d, skipV) :: ρ) H K) : Run P (.call (some d) (some (t, b)) f xs :: r) ρ H K :=
  ⟨by simp only [EvItems, guardOk, RItem.g, RItem.d, putv, hg, skipV]; exact k.out⟩
theorem Run.opY0 (hg : ρ.get t = .b b) (h : io.step (Opd.ev ρ) H = some (v, H')) (k : Run P r ρ H' K) : Run P (.op none (some (t, b)) io :: r) ρ H K :=
  ⟨by simp only [EvItems, guardOk, EvItem, RItem.g, RItem.d, h, putv, hg, BEq.rfl]; exact k.out⟩
/-- A guard that is not known: both ways. -/
theorem Run.guard {x : Bool} {it : RItem} (_hi : it.g = some (t, b)) (_hg : ρ.get t = .b x) (hy : x = b → Run P (it :: r) ρ H K) (hn : x = (!b) → Run P (it :: r) ρ H K) : Run P (it :: r) ρ H K := by
  cases x <;> cases b <;> first | exact hy rfl | exact hn rfl
variable {o : Option Nat} {f : Opd} {g : FuncId} {va vb vs : List Val} {xs : List Opd}
theorem Run.call (hf : f.ev ρ = .fn (.func g) va vb) (hv : va ++ xs.map (Opd.ev ρ) ++ vb = vs) (k : SoundCall P g vs H (fun v H' => Run P r ((d, v) :: ρ) H' K)) : Run P (.call (some d) none f xs :: r) ρ H K :=
  ⟨by simp only [EvItems, guardOk, EvItem, RItem.g, RItem.d, putv, hf, hv]; exact k.mono fun v H' q => q.out⟩
theorem Run.call0 (hf : f.ev ρ = .fn (.func g) va vb) (hv : va ++ xs.map (Opd.ev ρ) ++ vb = vs) (k : SoundCall P g vs H (fun _ H' => Run P r ρ H' K)) : Run P (.call none none f xs :: r) ρ H K :=
  ⟨by simp only [EvItems, guardOk, EvItem, RItem.g, RItem.d, putv, hf, hv]; exact k.mono fun v H' q => q.out⟩
theorem Run.callY (hg : ρ.get t = .b b) (hf : f.ev ρ = .fn (.func g) va vb) (hv : va ++ xs.map (Opd.ev ρ) ++ vb = vs) (k : SoundCall P g vs H (fun v H' => Run P r ((d, v) :: ρ) H' K)) : Run P (.call (some d) (some (t, b)) f xs :: r) ρ H K :=
  ⟨by simp only [EvItems, guardOk, EvItem, RItem.g, RItem.d, putv, hf, hv, hg, BEq.rfl]; exact k.mono fun v H' q => q.out⟩
theorem Bb (hg : ρ.get t = .b (!b)) (k : Run P r ((d, skipV) :: ρ) H K) : Run P (.call (some d) (some (t, b)) f xs :: r) ρ H K :=
  ⟨by simp only [EvItems, guardOk, RItem.g, RItem.d, putv, hg, Bool.not_beq_self]; exact k.out⟩
end

section
variable {r : List RItem} {ρ : Env} {H H' : Heap} {K : Env → Heap → Prop} {d t : Nat} {v : Val} {no : NOp} {b : Bool} {l : List (Val × Heap)}
/-- An operation with more than one outcome. -/
theorem Run.any (h : no.step (Opd.ev ρ) H = some l) (k : ∀ x ∈ l, Run P r ((d, x.1) :: ρ) x.2 K) : Run P (.any (some d) none no :: r) ρ H K :=
  ⟨by simp only [EvItems, guardOk, EvItem, RItem.g, RItem.d, h, putv]; exact fun x hx => (k x hx).out⟩
theorem Na (h : no.step (Opd.ev ρ) H = some [(v, H')]) (k : Run P r ((d, v) :: ρ) H' K) : Run P (.any (some d) none no :: r) ρ H K :=
  Run.any h fun x hx => by obtain rfl := List.mem_singleton.1 hx; exact k
theorem Nb (h : no.step (Opd.ev ρ) H = some [(v, H')]) (k : Run P r ρ H' K) : Run P (.any none none no :: r) ρ H K :=
  ⟨by simp only [EvItems, guardOk, EvItem, RItem.g, RItem.d, h, putv]; intro x hx; obtain rfl := List.mem_singleton.1 hx; exact k.out⟩
theorem Nc (hg : ρ.get t = .b b) (h : no.step (Opd.ev ρ) H = some [(v, H')]) (k : Run P r ((d, v) :: ρ) H' K) : Run P (.any (some d) (some (t, b)) no :: r) ρ H K :=
  ⟨by simp only [EvItems, guardOk, EvItem, RItem.g, RItem.d, h, putv, hg, BEq.rfl]; intro x hx; obtain rfl := List.mem_singleton.1 hx; exact k.out⟩
theorem Nd (hg : ρ.get t = .b (!b)) (k : Run P r ((d, skipV) :: ρ) H K) : Run P (.any (some d) (some (t, b)) no :: r) ρ H K :=
  ⟨by simp only [EvItems, guardOk, RItem.g, RItem.d, putv, hg, Bool.not_beq_self]; exact k.out⟩
theorem Ne (hg : ρ.get t = skipV) (k : Run P r ((d, skipV) :: ρ) H K) : Run P (.any (some d) (some (t, b)) no :: r) ρ H K :=
  ⟨by simp only [EvItems, guardOk, RItem.g, RItem.d, putv, hg, skipV]; exact k.out⟩
end

/-- As Run; a call leaves the objects as they are. -/
structure RunP (P : Program) (its : List RItem) (ρ : Env) (H : Heap) (K : Env → Heap → Prop) : Prop where
  out : EvItemsP P its ρ H K
section
variable {its r : List RItem} {ρ : Env} {H H' : Heap} {K : Env → Heap → Prop} {d t : Nat} {v : Val} {io : IOp} {b : Bool}
theorem Eb (h : K ρ H) : RunP P [] ρ H K := ⟨h⟩
theorem Ac (h : io.step (Opd.ev ρ) H = some (v, H')) (k : RunP P r ((d, v) :: ρ) H' K) : RunP P (.op (some d) none io :: r) ρ H K :=
  ⟨by simp only [EvItemsP, guardOk, EvItem, RItem.g, RItem.d, h, putv]; exact ⟨fun _ _ _ _ e => (by cases e), k.out⟩⟩
theorem Ad (h : io.step (Opd.ev ρ) H = some (v, H')) (k : RunP P r ρ H' K) : RunP P (.op none none io :: r) ρ H K :=
  ⟨by simp only [EvItemsP, guardOk, EvItem, RItem.g, RItem.d, h, putv]; exact ⟨fun _ _ _ _ e => (by cases e), k.out⟩⟩
theorem Ah (hg : ρ.get t = .b b) (h : io.step (Opd.ev ρ) H = some (v, H')) (k : RunP P r ((d, v) :: ρ) H' K) : RunP P (.op (some d) (some (t, b)) io :: r) ρ H K :=
  ⟨by simp only [EvItemsP, guardOk, EvItem, RItem.g, RItem.d, h, putv, hg, BEq.rfl]; exact ⟨fun _ _ _ _ e => (by cases e), k.out⟩⟩
theorem Bc (hg : ρ.get t = .b (!b)) (k : RunP P r ((d, skipV) :: ρ) H K) : RunP P (.op (some d) (some (t, b)) io :: r) ρ H K :=
  ⟨by simp only [EvItemsP, guardOk, RItem.g, RItem.d, putv, hg, Bool.not_beq_self]; exact k.out⟩
theorem Cc (hg : ρ.get t = skipV) (k : RunP P r ((d, skipV) :: ρ) H K) : RunP P (.op (some d) (some (t, b)) io :: r) ρ H K :=
  ⟨by simp only [EvItemsP, guardOk, RItem.g, RItem.d, putv, hg, skipV]; exact k.out⟩
theorem Cd {f : Opd} {xs : List Opd} (hg : ρ.get t = skipV) (k : RunP P r ((d, skipV) :: ρ) H K) : RunP P (.call (some d) (some (t, b)) f xs :: r) ρ H K :=
  ⟨by simp only [EvItemsP, guardOk, RItem.g, RItem.d, putv, hg, skipV]; exact k.out⟩
theorem RunP.guard {x : Bool} {it : RItem} (_hi : it.g = some (t, b)) (_hg : ρ.get t = .b x) (hy : x = b → RunP P (it :: r) ρ H K) (hn : x = (!b) → RunP P (it :: r) ρ H K) : RunP P (it :: r) ρ H K := by
  cases x <;> cases b <;> first | exact hy rfl | exact hn rfl
variable {f : Opd} {g : FuncId} {va vb vs : List Val} {xs : List Opd}
theorem RunP.call (hf : f.ev ρ = .fn (.func g) va vb) (hv : va ++ xs.map (Opd.ev ρ) ++ vb = vs) (k : SoundCall P g vs H (fun v H' => H' = H ∧ RunP P r ((d, v) :: ρ) H K)) : RunP P (.call (some d) none f xs :: r) ρ H K :=
  ⟨by simp only [EvItemsP, guardOk, EvItem, RItem.g, RItem.d, putv, hf, hv]; exact k.mono fun v H' q => by
        obtain ⟨rfl, q⟩ := q
        exact ⟨fun _ _ _ _ _ => rfl, q.out⟩⟩
theorem RunP.callY (hg : ρ.get t = .b b) (hf : f.ev ρ = .fn (.func g) va vb) (hv : va ++ xs.map (Opd.ev ρ) ++ vb = vs) (k : SoundCall P g vs H (fun v H' => H' = H ∧ RunP P r ((d, v) :: ρ) H K)) : RunP P (.call (some d) (some (t, b)) f xs :: r) ρ H K :=
  ⟨by simp only [EvItemsP, guardOk, EvItem, RItem.g, RItem.d, putv, hf, hv, hg, BEq.rfl]; exact k.mono fun v H' q => by
        obtain ⟨rfl, q⟩ := q
        exact ⟨fun _ _ _ _ _ => rfl, q.out⟩⟩
theorem Bd (hg : ρ.get t = .b (!b)) (k : RunP P r ((d, skipV) :: ρ) H K) : RunP P (.call (some d) (some (t, b)) f xs :: r) ρ H K :=
  ⟨by simp only [EvItemsP, guardOk, RItem.g, RItem.d, putv, hg, Bool.not_beq_self]; exact k.out⟩
end

section
variable {ρ : Env} {H : Heap} {Q : Exit → Env → Heap → Prop} {x y z : ICode} {its : List RItem} {ord ms : List Nat} {id : Nat}
theorem Ec (h : Run P its ρ H (fun ρ' H' => EvI P N m y ρ' H' Q)) : EvI P N m (.seq (.reg its) y) ρ H Q := Ee (ei_reg h.out)
theorem Dg (hs : statOk (preOf ms) its [] ord = true) {its' : List RItem} (ho : inOrd its ord = its') (h : Run P its' ρ H (fun ρ' H' => EvI P N m y ρ' H' Q)) : EvI P N m (.seq (.dreg its ord ms) y) ρ H Q := Ee (ei_dregS hs (ho ▸ h.out))
theorem Db (hs : statOk (preOf ms) its [] ord = true) (ho : inOrd its ord = its) (h : Run P its ρ H (fun ρ' H' => Q .normal ρ' H')) : EvI P N m (.dreg its ord ms) ρ H Q := ei_dregS hs (by rw [ho]; exact h.out)
theorem Da (hs : statOk (preOf ms) its [] ord = true) (ho : inOrd its ord = its) (h : Run P its ρ H (fun ρ' H' => EvI P N m y ρ' H' Q)) : EvI P N m (.seq (.dreg its ord ms) y) ρ H Q := Ee (Db hs ho h)
theorem Dd (hs : statP (preOf ms) its false [] ord = true) (ho : inOrd its ord = its) (h : RunP P its ρ H (fun ρ' H' => Q .normal ρ' H')) : EvI P N m (.dreg its ord ms) ρ H Q := ei_dregP hs (by rw [ho]; exact h.out)
theorem Dc (hs : statP (preOf ms) its false [] ord = true) (ho : inOrd its ord = its) (h : RunP P its ρ H (fun ρ' H' => EvI P N m y ρ' H' Q)) : EvI P N m (.seq (.dreg its ord ms) y) ρ H Q := Ee (Dd hs ho h)
theorem Ed (h : Run P its ρ H (fun ρ' H' => Q .normal ρ' H')) : EvI P N m (.reg its) ρ H Q := ei_reg h.out
theorem Dh (hs : statOk (preOf ms) its [] ord = true) {its' : List RItem} (ho : inOrd its ord = its') (h : Run P its' ρ H (fun ρ' H' => Q .normal ρ' H')) : EvI P N m (.dreg its ord ms) ρ H Q := ei_dregS hs (ho ▸ h.out)
theorem Df (hs : statP (preOf ms) its false [] ord = true) {its' : List RItem} (ho : inOrd its ord = its') (h : RunP P its' ρ H (fun ρ' H' => Q .normal ρ' H')) : EvI P N m (.dreg its ord ms) ρ H Q := ei_dregP hs (ho ▸ h.out)
theorem De (hs : statP (preOf ms) its false [] ord = true) {its' : List RItem} (ho : inOrd its ord = its') (h : RunP P its' ρ H (fun ρ' H' => EvI P N m y ρ' H' Q)) : EvI P N m (.seq (.dreg its ord ms) y) ρ H Q := Ee (Df hs ho h)
variable {K : Env → Heap → Prop} {i : Nat}
theorem Ej (h : K ρ H) : thenQ K Q .normal ρ H := h
theorem Ek (h : Q .ret ρ H) : thenQ K Q .ret ρ H := h
theorem El (h : Q (.exit i) ρ H) : thenQ K Q (.exit i) ρ H := h
theorem Em (h : Q .normal ρ H) : blockQ id Q .normal ρ H := h
theorem En (h : Q .ret ρ H) : blockQ id Q .ret ρ H := h
theorem Eo (h : Q .normal ρ H) : blockQ id Q (.exit id) ρ H := by simp only [blockQ, if_true]; exact h
theorem Ep (hi : (i == id) = false) (h : Q (.exit i) ρ H) : blockQ id Q (.exit i) ρ H := by
  simp only [blockQ]
  rw [if_neg (by simpa using hi)]
  exact h
variable {rs : List RV} {R : Val → Heap → Prop} {v : Val}
theorem Ae (hv : resV ρ H rs = some v) (h : R v H) : FPost rs R .ret ρ H := ⟨v, hv, h⟩
theorem Af (hv : resV ρ H rs = some v) (h : R v H) : FPost rs R .normal ρ H := ⟨v, hv, h⟩
theorem Be {c : Opd} (hb : c.ev ρ = .b true) (h : EvI P N m x ρ H Q) : EvI P N m (.cond c x y) ρ H Q := ei_cond hb (fun _ => h) (fun e => by cases e)
theorem Ce {c : Opd} (hb : c.ev ρ = .b false) (h : EvI P N m y ρ H Q) : EvI P N m (.cond c x y) ρ H Q := ei_cond hb (fun e => by cases e) (fun _ => h)
end
theorem wr_nil (c : List Val) (off : Nat) : wr c off [] = c := rfl
theorem wr_step (v : Val) (c : List Val) (off : Nat) (l : List Val) : wr (v :: c) (off + 1) l = v :: wr c off l := by
  induction l generalizing v c off with
  | nil => rfl
  | cons x l ih => simp only [wr, List.set_cons_succ]; rw [ih]
theorem wr_zero (v : Val) (c : List Val) (x : Val) (l : List Val) : wr (v :: c) 0 (x :: l) = x :: wr c 0 l := by
  simp only [wr, List.set_cons_zero, Nat.zero_add]
  exact wr_step x c 0 l
theorem lenNo_s (b : ByteArray) : Val.lenNo (.s b) = 1 := rfl
theorem lenNo_nils : Val.lenNo .nils = 2 := rfl
theorem lenNo_sl (a b c d : Nat) : Val.lenNo (.sl a b c d) = 2 := rfl
theorem lenNo_nilm : Val.lenNo .nilm = 3 := rfl
theorem lenNo_m (a : Nat) : Val.lenNo (.m a) = 3 := rfl
theorem lenOf_s (b : ByteArray) (H : Heap) : lenOf (.s b) H = some (.i .i64 b.size) := rfl
theorem lenOf_nils (H : Heap) : lenOf .nils H = some (.i .i64 0) := rfl
theorem lenOf_sl (a b c d : Nat) (H : Heap) : lenOf (.sl a b c d) H = some (.i .i64 c) := rfl
theorem lenOf_nilm (H : Heap) : lenOf .nilm H = some (.i .i64 0) := rfl
theorem lenOf_m {a : Nat} {H : Heap} {es : List (Nat × Val × Val)} {ck : Nat} (h : H[a]? = some (.map es ck)) : lenOf (.m a) H = some (.i .i64 es.length) := by simp only [lenOf, h]
theorem nc0 : ((0 : Nat) : Int) = 0 := rfl
theorem nc1 : ((1 : Nat) : Int) = 1 := rfl
theorem nc2 : ((2 : Nat) : Int) = 2 := rfl
theorem nc3 : ((3 : Nat) : Int) = 3 := rfl
theorem mk_one (x : Val) (n : Nat) : mk [x] n = List.replicate n x := rfl
theorem decide_t {p : Prop} [Decidable p] (h : p) : decide p = true := decide_eq_true h
theorem decide_f {p : Prop} [Decidable p] (h : ¬ p) : decide p = false := decide_eq_false h

/-- What a call leaves, told by the objects `ids` alone. -/
def Told (m : Nat) (Q : Val → Heap → Prop) (v : Val) (H : Heap) : Prop :=
  ∃ (ids : List Nat) (C : Heap) (v0 : Val), ids.length = C.length ∧ ids.Nodup ∧ embAt (nm ids) H ids C ∧ wfAll C.length C ∧ m ≤ C.length ∧ ids.take m = List.range m ∧ v0.wf C.length = true ∧ v = v0.ren (nm ids) ∧ Q v0 C
theorem told {m : Nat} {Q : Val → Heap → Prop} {v : Val} {H : Heap} (ids : List Nat) (C : Heap) (v0 : Val) (h1 : ids.length = C.length) (h2 : ids.Nodup) (h3 : embAt (nm ids) H ids C) (h4 : wfAll C.length C) (h5 : m ≤ C.length) (h6 : ids.take m = List.range m)
    (h7 : v0.wf C.length = true) (h8 : v = v0.ren (nm ids)) (h9 : Q v0 C) : Told m Q v H := ⟨ids, C, v0, h1, h2, h3, h4, h5, h6, h7, h8, h9⟩

theorem nm_low {ids : List Nat} {m : Nat} (h : ids.take m = List.range m) {x : Nat} (hx : x < m) : nm ids x = x := by
  have : (ids.take m)[x]? = (List.range m)[x]? := by rw [h]
  rw [List.getElem?_take, if_pos hx, List.getElem?_range hx] at this
  simp [nm, this]

theorem PostM.told {m : Nat} {σ : Names} {H : Heap} {w : World} {Q : Val → Heap → Prop} {e : Ending} {w' : World} (h : PostM m σ H w (Told m Q) e w') : PostM m σ H w Q e w' := by
  obtain ⟨v, c, H', σ', rfl, hv, ⟨ids, C, v0, h1, h2, h3, h4, h5, h6, h7, rfl, h9⟩, hr, hs⟩ := h
  have he : Emb (nm ids) C H' := emb_of h1 h2 h3 h4
  have hb : ∀ id l, id < C.length → σ' (nm ids id) = some l → back σ' (nm ids) C.length id = some l := fun id l hi hs => by simp [back, hi, hs]
  have hbk : ∀ id l, back σ' (nm ids) C.length id = some l → id < C.length ∧ σ' (nm ids id) = some l := by
    intro id l hs
    unfold back at hs
    split at hs
    · rename_i hi; exact ⟨hi, hs⟩
    · cases hs
  have hlv : ∀ x, Live C x → Live H' (nm ids x) := by
    rintro x ⟨o, g1, g2⟩
    exact ⟨_, he.at_ x o g1, by rw [ren_live]; exact g2⟩
  have hro : ∀ x, Ro C x → Ro H' (nm ids x) := by
    rintro x ⟨o, g1, g2⟩
    exact ⟨_, he.at_ x o g1, by rw [ren_isro]; exact g2⟩
  refine ⟨v0, c, C, back σ' (nm ids) C.length, rfl, VRel.unren (ι := nm ids) (fun id l hi hs => hb id l hi hs) v0 hv h7, h9, hr.emb he, ?_⟩
  refine ⟨fun id hi => ?_, h5, hs.size, hs.keep, fun id l g1 g2 => ?_, fun id hi g2 => ?_, hs.rest, fun id l g1 g2 => ?_⟩
  · unfold back
    rw [if_pos (by omega), nm_low h6 hi]
    exact hs.ext id hi
  · exact hs.fresh _ l (hbk id l g1).2 (hlv id g2)
  · have := hlv id g2
    rw [nm_low h6 hi] at this
    exact hs.live id hi this
  · exact hs.ro _ l (hbk id l g1).2 (hro id g2)

theorem sound_told {f : FuncId} {vs : List Val} {H : Heap} {Q : Val → Heap → Prop} (h : SoundM P m f vs H (Told m Q)) : SoundM P m f vs H Q := by
  refine ⟨h.1, fun σ w cs r l => ?_⟩
  rcases h.2 σ w cs r l with ⟨g, h1, h2⟩ | ⟨c, w', h1, h2⟩
  · exact .inl ⟨g, h1, h2.mono fun e w' q => q.told⟩
  · exact .inr ⟨c, w', h1, h2.told⟩

/-- A callee's contract, over its own few objects C, at a call beside the objects of H. -/
theorem sound_use {k : Nat} {f : FuncId} {vs ws : List Val} {C H : Heap} {Q : Val → Heap → Prop} {K : Val → Heap → Prop} (h : SoundM P k f vs C Q) (ids : List Nat) (hlen : ids.length = C.length) (hnd : ids.Nodup)
    (hat : embAt (nm ids) H ids C) (hw : wfAll C.length C) (hvs : wfL C.length vs = true) (hws : ws = renL (nm ids) vs)
    (hk : ∀ v C', Q v C' → K (v.ren (after (nm ids) k H.length)) (merge ids k H C')) : SoundCall P f ws H K :=
  (sound_frame h hlen hnd (embAt_get hat) (wfAll_get hw) hvs hws).mono fun v H' ⟨v0, C', hq, hv, hH⟩ => by
    subst hv; subst hH; exact hk v0 C' hq

/-- The state ρ, H, told anew, is ρ0, C. -/
def AnewS (m : Nat) (C : Heap) (ρ0 ρ : Env) (H : Heap) : Prop :=
  ∃ ids : List Nat, ids.length = C.length ∧ ids.Nodup ∧ embAt (nm ids) H ids C ∧ wfAll C.length C ∧ m ≤ C.length ∧ ids.take m = List.range m ∧ ρ0.all (fun x => wfL C.length [x.2]) = true ∧ ∀ x ∈ ρ0, ρ.get x.1 = (ρ0.get x.1).ren (nm ids)
theorem anew {m : Nat} {C : Heap} {ρ0 ρ : Env} {H : Heap} (ids : List Nat) (h1 : ids.length = C.length) (h2 : ids.Nodup) (h3 : embAt (nm ids) H ids C) (h4 : wfAll C.length C) (h5 : m ≤ C.length) (h6 : ids.take m = List.range m)
    (h7 : ρ0.all (fun x => wfL C.length [x.2]) = true) (h8 : ∀ x ∈ ρ0, ρ.get x.1 = (ρ0.get x.1).ren (nm ids)) : AnewS m C ρ0 ρ H := ⟨ids, h1, h2, h3, h4, h5, h6, h7, h8⟩
theorem ei_anewS {C : Heap} {ρ0 : Env} {ic : ICode} {ρ : Env} {H : Heap} {Q : Exit → Env → Heap → Prop} (ha : AnewS m C ρ0 ρ H) (h : EvI P N m ic ρ0 C Q) : EvI P N m ic ρ H Q := by
  obtain ⟨ids, h1, h2, h3, h4, h5, h6, h7, h8⟩ := ha
  exact ei_anew ids C ρ0 h1 h2 h3 h4 h5 h6 h7 h8 h

theorem mn_lo {k k' : IntKind} {x y : Int} (h : x ≤ y) : mxs true (.i k x) [.i k' y] = some (.i k x) := by
  simp only [mxs, mx2, if_true]
  rw [if_neg (by omega)]
theorem mn_hi {k k' : IntKind} {x y : Int} (h : y ≤ x) : mxs true (.i k x) [.i k' y] = some (.i k y) := by
  simp only [mxs, mx2, if_true]
  split
  · rfl
  · exact congrArg (fun z => some (Val.i k z)) (by omega)
theorem mx_lo {k k' : IntKind} {x y : Int} (h : x ≤ y) : mxs false (.i k x) [.i k' y] = some (.i k y) := by
  simp only [mxs, mx2, Bool.false_eq_true, if_false]
  split
  · rfl
  · exact congrArg (fun z => some (Val.i k z)) (by omega)
theorem mx_hi {k k' : IntKind} {x y : Int} (h : y ≤ x) : mxs false (.i k x) [.i k' y] = some (.i k x) := by
  simp only [mxs, mx2, Bool.false_eq_true, if_false]
  rw [if_neg (by omega)]

/-- Short names of the steps, and of what they count with. -/
theorem OM : (∀ x : Int, -9223372036854775808 ≤ x ∧ x ≤ 9223372036854775807 → IntKind.i64.wrap x = x) ∧ (∀ x : Int, 0 ≤ x ∧ x ≤ 18446744073709551615 → IntKind.u64.wrap x = x) ∧ (∀ x : Int, 0 ≤ x ∧ x ≤ 255 → IntKind.u8.wrap x = x) ∧
    (∀ x : Int, 0 ≤ x ∧ x ≤ 65535 → IntKind.u16.wrap x = x) ∧ (∀ x : Int, 0 ≤ x ∧ x ≤ 4294967295 → IntKind.u32.wrap x = x) ∧ (∀ a b : Int, 0 ≤ a → a.tmod b = a % b) ∧ (∀ a b : Int, 0 ≤ a → a.tdiv b = a / b) :=
  ⟨fun _ h => wrap_i64 h, fun _ h => wrap_u64 h, fun _ h => wrap_u8 h, fun _ h => wrap_u16 h, fun _ h => wrap_u32 h, fun _ _ h => tmod_nn h, fun _ _ h => tdiv_nn h⟩
theorem MG : (∀ {α : Type} (a : α) (l : List α) (d : α), (a :: l).getD 0 d = a) ∧ (∀ {α : Type} (a : α) (l : List α) (d : α) (n : Nat), (a :: l).getD (n + 1) d = l.getD n d) ∧ (∀ {α : Type} (a : α) (l : List α), (a :: l).length = l.length + 1) ∧ (∀ {α : Type}, ([] : List α).length = 0) ∧
    (∀ {α : Type} (a : α) (l : List α), (a :: l)[0]? = some a) ∧ (∀ {α : Type} (a : α) (l : List α) (n : Nat), (a :: l)[n + 1]? = l[n]?) ∧ (∀ {α : Type} (a d : α), (some a).getD d = a) ∧ (∀ {α : Type} (a b : α) (l : List α), (a :: l).set 0 b = b :: l) ∧ (∀ {α : Type} (a b : α) (l : List α) (n : Nat), (a :: l).set (n + 1) b = a :: l.set n b) ∧
    (∀ {α : Type} (l : List α), l.drop 0 = l) ∧ (∀ {α : Type} (a : α) (l : List α) (n : Nat), (a :: l).drop (n + 1) = l.drop n) ∧ (∀ {α : Type} (n : Nat), ([] : List α).drop n = []) ∧ (∀ {α β : Type} (f : α → β), [].map f = []) ∧ (∀ {α β : Type} (f : α → β) (a : α) (l : List α), (a :: l).map f = f a :: l.map f) ∧
    (∀ {α : Type} (l : List α), l ++ [] = l) ∧ (∀ {α : Type} (a : α) (l m : List α), (a :: l) ++ m = a :: (l ++ m)) ∧ (∀ {α : Type} (l : List α), [] ++ l = l) ∧ (∀ n : Nat, 0 + n = n) :=
  ⟨fun _ _ _ => rfl, fun _ _ _ _ => rfl, fun _ _ => rfl, rfl, fun _ _ => rfl, fun _ _ _ => rfl, fun _ _ => rfl, fun _ _ _ => rfl, fun _ _ _ _ => rfl, fun _ => rfl, fun _ _ _ => rfl, fun _ => List.drop_nil, fun _ => rfl, fun _ _ _ => rfl, fun _ => List.append_nil _, fun _ _ _ => rfl, fun _ => rfl, Nat.zero_add⟩
/-- What is known behind the first part, told anew. -/
theorem ei_mid {x : ICode} {ρ : Env} {H : Heap} {K : Env → Heap → Prop} {Q : Exit → Env → Heap → Prop} (M : Env → Heap → Prop) (h : EvI P N m x ρ H (thenQ M Q)) (k : ∀ ρ' H', M ρ' H' → K ρ' H') : EvI P N m x ρ H (thenQ K Q) :=
  h.mono (fun e ρ' H' q => by cases e <;> first | exact k _ _ q | exact q)
theorem ei_seq2 {a b c : ICode} {ρ : Env} {H : Heap} {Q : Exit → Env → Heap → Prop} (M : Env → Heap → Prop) (h : EvI P N m a ρ H (thenQ (fun ρ' H' => EvI P N m b ρ' H' (thenQ M Q)) Q)) (k : ∀ ρ' H', M ρ' H' → EvI P N m c ρ' H' Q) : EvI P N m (.seq a (.seq b c)) ρ H Q :=
  Ee (h.mono (fun e ρ' H' q => by
    cases e with
    | normal => exact Ee (ei_mid M q k)
    | _ => exact q))
/-- Of the locals only a few are asked further on. -/
theorem ei_few (ρ0 : Env) {ic : ICode} {ρ : Env} {H : Heap} {Q : Exit → Env → Heap → Prop} (hx : ∀ x ∈ ρ0, ρ.get x.1 = x.2) (h : EvI P N m ic ρ0 H Q) : EvI P N m ic ρ H Q := by
  refine EvI.weak (fun t => ?_) h
  clear h
  induction ρ0 with
  | nil => exact .inr rfl
  | cons y r ih =>
    obtain ⟨s, v⟩ := y
    simp only [Env.get]
    by_cases e : s = t
    · subst e; rw [if_pos rfl]; exact .inl (hx (s, v) (by simp)).symm
    · rw [if_neg e]; exact ih (fun x hm => hx x (by simp [hm]))
/-- A callee that looks at no object. -/
theorem sound_alone {f : FuncId} {vs : List Val} {r : Val} (h : SoundM P 0 f vs [] (fun v H' => v = r ∧ H' = [])) (hw : wfL 0 vs = true) (hv : ∀ ι, renL ι vs = vs) (hr : ∀ ι, r.ren ι = r) (H : Heap) : SoundCall P f vs H (fun v H' => v = r ∧ H' = H) :=
  sound_use h [] rfl (by decide) trivial trivial hw (hv _).symm (by
    rintro v C' ⟨rfl, rfl⟩
    exact ⟨hr _, by simp [merge, place]⟩)
end Go.Proofs.Ytjahkgfihdngkaa.Ev
/- Maps whose keys are numbers, told by the keys in the order in which they came, and by what stands at each. -/
namespace Go.Proofs.Ytjahkgfihdngkaa.Ev
open Go
def MVf (kk : IntKind) (v : Int → Val) : List Int → Nat → List (Nat × Val × Val)
  | [], _ => []
  | k :: r, n => (n, .i kk k, v k) :: MVf kk v r (n + 1)
def MV (kk : IntKind) (ks : List Int) (v : Int → Val) : List (Nat × Val × Val) := MVf kk v ks 0
def updF (v : Int → Val) (k : Int) (x : Val) : Int → Val := fun y => if y = k then x else v y

theorem MVf_len (kk : IntKind) (v : Int → Val) : ∀ (ks : List Int) (n : Nat), (MVf kk v ks n).length = ks.length
  | [], _ => rfl
  | k :: r, n => by simp [MVf, MVf_len kk v r]
theorem MV_len (kk : IntKind) (ks : List Int) (v : Int → Val) : (MV kk ks v).length = ks.length := MVf_len kk v ks 0
theorem MVf_get (kk : IntKind) (v : Int → Val) : ∀ (ks : List Int) (n j : Nat), (MVf kk v ks n)[j]? = (ks[j]?).map fun k => (n + j, .i kk k, v k)
  | [], _, _ => rfl
  | k :: r, n, 0 => rfl
  | k :: r, n, j + 1 => by simp only [MVf, List.getElem?_cons_succ]; rw [MVf_get kk v r]; congr; funext x; rw [show n + 1 + j = n + (j + 1) by omega]
theorem MVf_app (kk : IntKind) (v : Int → Val) : ∀ (ks ls : List Int) (n : Nat), MVf kk v (ks ++ ls) n = MVf kk v ks n ++ MVf kk v ls (n + ks.length)
  | [], ls, n => rfl
  | k :: r, ls, n => by simp only [List.cons_append, MVf, MVf_app kk v r, List.length_cons]; rw [show n + 1 + r.length = n + (r.length + 1) by omega]
theorem MVf_congr (kk : IntKind) {v u : Int → Val} : ∀ {ks : List Int} {n : Nat}, (∀ k ∈ ks, v k = u k) → MVf kk v ks n = MVf kk u ks n
  | [], _, _ => rfl
  | k :: r, n, h => by simp only [MVf]; rw [h k (by simp), MVf_congr kk fun x hx => h x (by simp [hx])]
theorem findV_in' (kk : IntKind) (v : Int → Val) {k : Int} : ∀ {ks : List Int} {n i : Nat}, k ∈ ks → findV (.int kk) (.i kk k) (MVf kk v ks n) i = some (some (i + ks.idxOf k, v k))
  | [], _, _, h => by simp at h
  | x :: r, n, i, h => by
    simp only [MVf, findV, isK, kq, decide_true, if_true]
    by_cases e : k = x
    · subst e; simp
    · have h' : k ∈ r := by simpa [e] using h
      have e2 : ¬ x = k := fun q => e q.symm
      have eb : (k == x) = false := by simpa using e
      simp only [eb, Bool.false_eq_true, if_false]
      have eb2 : (x == k) = false := by simpa using e2
      rw [findV_in' kk v h', List.idxOf_cons, eb2]
      simp only [cond_false]
      rw [show i + 1 + r.idxOf k = i + (r.idxOf k + 1) by omega]
theorem findV_in {kk : IntKind} {v : Int → Val} {k : Int} {ks : List Int} (h : k ∈ ks) : findV (.int kk) (.i kk k) (MV kk ks v) 0 = some (some (ks.idxOf k, v k)) := by
  unfold MV; rw [findV_in' kk v h, Nat.zero_add]
theorem findV_out' (kk : IntKind) (v : Int → Val) {k : Int} : ∀ {ks : List Int} {n i : Nat}, k ∉ ks → findV (.int kk) (.i kk k) (MVf kk v ks n) i = some none
  | [], _, _, _ => rfl
  | x :: r, n, i, h => by
    simp at h
    simp only [MVf, findV, isK, kq, decide_true, if_true]
    have eb : (k == x) = false := by simpa using h.1
    simp only [eb, Bool.false_eq_true, if_false]
    exact findV_out' kk v h.2
theorem findV_out {kk : IntKind} {v : Int → Val} {k : Int} {ks : List Int} (h : k ∉ ks) : findV (.int kk) (.i kk k) (MV kk ks v) 0 = some none := findV_out' kk v h
theorem idx_get {k : Int} : ∀ {ks : List Int}, k ∈ ks → ks[ks.idxOf k]? = some k
  | [], h => by simp at h
  | x :: r, h => by
    by_cases e : x = k
    · subst e; simp
    · have h' : k ∈ r := by rcases List.mem_cons.1 h with q | q; (· exact absurd q.symm e); exact q
      rw [List.idxOf_cons]
      have eb : (x == k) = false := by simpa using e
      simp only [eb, cond_false, List.getElem?_cons_succ]
      exact idx_get h'
theorem MVf_set (kk : IntKind) (v : Int → Val) (k : Int) (x : Val) : ∀ {ks : List Int} {n : Nat}, ks.Nodup → k ∈ ks → (MVf kk v ks n).set (ks.idxOf k) (n + ks.idxOf k, .i kk k, x) = MVf kk (updF v k x) ks n
  | [], _, _, h => by simp at h
  | y :: r, n, hn, h => by
    obtain ⟨h1, h2⟩ := List.nodup_cons.1 hn
    by_cases e : y = k
    · subst e
      simp only [List.idxOf_cons_self, MVf, List.set_cons_zero]
      rw [MVf_congr kk (u := updF v y x) fun z hz => by unfold updF; rw [if_neg (by rintro rfl; exact h1 hz)]]
      simp [updF]
    · have h' : k ∈ r := by rcases List.mem_cons.1 h with q | q; (· exact absurd q.symm e); exact q
      rw [List.idxOf_cons]
      have eb : (y == k) = false := by simpa using e
      rw [eb]
      simp only [cond_false, MVf, List.set_cons_succ]
      rw [show n + (r.idxOf k + 1) = (n + 1) + r.idxOf k by omega, MVf_set kk v k x h2 h']
      simp [updF, e]
theorem born_in {kk : IntKind} {v : Int → Val} {k : Int} {ks : List Int} (h : k ∈ ks) : (((MV kk ks v)[ks.idxOf k]?).map (·.1)).getD 0 = ks.idxOf k := by
  unfold MV; rw [MVf_get, idx_get h]; simp
theorem MV_set {kk : IntKind} {v : Int → Val} {k : Int} {ks : List Int} (x : Val) (hn : ks.Nodup) (h : k ∈ ks) : (MV kk ks v).set (ks.idxOf k) (ks.idxOf k, .i kk k, x) = MV kk ks (updF v k x) := by
  have := MVf_set kk v k x (n := 0) hn h
  rw [Nat.zero_add] at this; exact this
theorem MV_push {kk : IntKind} {v : Int → Val} {k : Int} {ks : List Int} (x : Val) (h : k ∉ ks) : MV kk ks v ++ [(ks.length, .i kk k, x)] = MV kk (ks ++ [k]) (updF v k x) := by
  unfold MV
  rw [MVf_app, MVf_congr kk (u := updF v k x) (ks := ks) fun z hz => by unfold updF; rw [if_neg (by rintro rfl; exact h hz)]]
  simp [MVf, updF]
theorem MV_nil (kk : IntKind) (v : Int → Val) : MV kk [] v = [] := rfl
theorem updF_same (v : Int → Val) (k : Int) (x : Val) : updF v k x k = x := by simp [updF]
theorem updF_ne (v : Int → Val) {k j : Int} (x : Val) (h : j ≠ k) : updF v k x j = v j := by simp [updF, h]

section
variable {e : Opd → Val} {H : Heap} {id ck : Nat} {kk : IntKind} {ks : List Int} {v : Int → Val} {m k x : Opd} {n : Int}
theorem mup_in (hm : e m = .m id) (hk : e k = .i kk n) (hH : H[id]? = some (.map (MV kk ks v) ck)) (hn : ks.Nodup) (h : n ∈ ks) : (NOp.mup (.int kk) m k x).step e H = some [(.u, H.set id (.map (MV kk ks (updF v n (e x))) ck))] := by
  simp only [NOp.step, hm, hH, hk, isK, decide_true, if_true, findV_in h, born_in h, MV_set _ hn h]
theorem mup_out (hm : e m = .m id) (hk : e k = .i kk n) (hH : H[id]? = some (.map (MV kk ks v) ks.length)) (h : n ∉ ks) : (NOp.mup (.int kk) m k x).step e H = some [(.u, H.set id (.map (MV kk (ks ++ [n]) (updF v n (e x))) (ks ++ [n]).length))] := by
  simp only [NOp.step, hm, hH, hk, isK, decide_true, if_true, findV_out h, MV_push _ h, List.length_append, List.length_singleton]
theorem men_in (z : Val) (hm : e m = .m id) (hk : e k = .i kk n) (hH : H[id]? = some (.map (MV kk ks v) ck)) (hn : ks.Nodup) (h : n ∈ ks) :
    (NOp.men (.int kk) z m k).step e H = some [(.tup [v n, .i .i64 (ks.idxOf n : Nat)], H.set id (.map (MV kk ks v) ck))] := by
  simp only [NOp.step, hm, hH, hk, isK, decide_true, if_true, findV_in h, born_in h, MV_set _ hn h]
  have : updF v n (v n) = v := by funext y; unfold updF; split <;> simp_all
  rw [this]
theorem men_out (z : Val) (hm : e m = .m id) (hk : e k = .i kk n) (hH : H[id]? = some (.map (MV kk ks v) ks.length)) (h : n ∉ ks) :
    (NOp.men (.int kk) z m k).step e H = some [(.tup [z, .i .i64 (ks.length : Nat)], H.set id (.map (MV kk (ks ++ [n]) (updF v n z)) (ks ++ [n]).length))] := by
  simp only [NOp.step, hm, hH, hk, isK, decide_true, if_true, findV_out h, MV_push _ h, List.length_append, List.length_singleton]
theorem find_born (kk : IntKind) (v : Int → Val) : ∀ (ks : List Int) (a j : Nat), j < ks.length → (MVf kk v ks a).findIdx? (fun y => (y.1 : Int) == ((a + j : Nat) : Int)) = some j
  | [], _, _, h => by simp at h
  | k :: r, a, 0, _ => by simp [MVf, List.findIdx?_cons]
  | k :: r, a, j + 1, h => by
    have h' : j < r.length := by simpa using h
    have := find_born kk v r (a + 1) j h'
    rw [show a + 1 + j = a + (j + 1) by omega] at this
    simp only [MVf, List.findIdx?_cons]
    rw [show ((a : Int) == ((a + (j + 1) : Nat) : Int)) = false by simp; omega, this]
    simp
theorem mes_in {s : Opd} {ik : IntKind} (hm : e m = .m id) (hs : e s = .i ik (ks.idxOf n : Nat)) (hH : H[id]? = some (.map (MV kk ks v) ck)) (hn : ks.Nodup) (h : n ∈ ks) :
    (NOp.mes m s x).step e H = some [(.u, H.set id (.map (MV kk ks (updF v n (e x))) ck))] := by
  have hl : ks.idxOf n < ks.length := List.idxOf_lt_length_iff.2 h
  have hf := find_born kk v ks 0 _ hl
  rw [Nat.zero_add] at hf
  have hg := MVf_get kk v ks 0 (ks.idxOf n)
  rw [idx_get h, Nat.zero_add] at hg
  simp only [Option.map_some] at hg
  have := MV_set (v := v) (e x) hn h (kk := kk)
  unfold MV at hH this ⊢
  simp only [NOp.step, hm, hs, hH, hf, hg, this]

-- going over one
theorem mem_filter_born {es : List (Nat × Val × Val)} {p : Nat → Bool} {x : Nat × Val × Val} : x ∈ es.filter (fun x => p x.1) ↔ x ∈ es ∧ p x.1 = true := by simp
theorem cands_mem {seen : List Nat} {y : Option (Nat × Val × Val)} (hy : y ∈ cands (MV kk ks v) ks.length seen) :
    (y = none ∧ ∀ j, j < ks.length → j ∈ seen) ∨ ∃ (j : Nat) (k : Int), ks[j]? = some k ∧ j ∉ seen ∧ y = some (j, .i kk k, v k) := by
  have hall : ∀ x ∈ MV kk ks v, ∃ (j : Nat) (k : Int), ks[j]? = some k ∧ x = (j, .i kk k, v k) := by
    intro x hx
    obtain ⟨j, hj, rfl⟩ := List.getElem_of_mem hx
    have h1 := List.getElem?_eq_getElem hj
    unfold MV at h1 ⊢
    rw [MVf_get, Nat.zero_add] at h1
    obtain ⟨k, hk, e⟩ := Option.map_eq_some_iff.1 h1
    exact ⟨j, k, hk, e.symm⟩
  unfold cands at hy
  rcases List.mem_append.1 hy with hy | hy
  · split at hy
    · rename_i he
      simp at hy
      subst hy
      refine .inl ⟨rfl, fun j hj => ?_⟩
      apply Classical.byContradiction
      intro hn
      have hm : (j, Val.i kk ks[j], v ks[j]) ∈ ((MV kk ks v).filter fun x => !seen.contains x.1).filter fun x => decide (x.1 < ks.length) := by
        rw [List.mem_filter, List.mem_filter]
        refine ⟨⟨?_, by simpa using hn⟩, by simpa using hj⟩
        refine List.mem_of_getElem? (i := j) ?_
        unfold MV
        rw [MVf_get, List.getElem?_eq_getElem hj]; simp
      rw [List.isEmpty_iff.1 he] at hm
      simp at hm
    · simp at hy
  · obtain ⟨x, hx, rfl⟩ := List.mem_map.1 hy
    have : x ∈ MV kk ks v ∧ x.1 ∉ seen := by
      rcases List.mem_append.1 hx with hx | hx
      · have := (List.mem_filter.1 (List.mem_filter.1 hx).1)
        exact ⟨this.1, by simpa using this.2⟩
      · have := (List.mem_filter.1 (List.mem_filter.1 hx).1)
        exact ⟨this.1, by simpa using this.2⟩
    obtain ⟨j, k, hk, rfl⟩ := hall x this.1
    exact .inr ⟨j, k, hk, this.2, rfl⟩
theorem nxt_MV {id mid : Nat} {seen : List Nat} (hx : e x = .p id 0) (hi : H[id]? = some (.iter mid ks.length seen ks.length)) (hm : H[mid]? = some (.map (MV kk ks v) ks.length)) :
    (NOp.nxt x).step e H = some ((cands (MV kk ks v) ks.length seen).map (nxtOut id mid ks.length ks.length seen H)) := by
  have ht : (!seen.isEmpty && !(MV kk ks v).isEmpty && (MV kk ks v).all fun x => decide (x.1 ≥ ks.length)) = false := by
    cases ks with
    | nil => simp [MV, MVf]
    | cons k r => simp [MV, MVf]
  simp only [NOp.step, hx, hi, hm, ht, Bool.false_eq_true, if_false]
end
theorem find_at (kk : IntKind) (v : Int → Val) : ∀ (ks : List Int) (a j : Nat) (k : Int), ks[j]? = some k → (MVf kk v ks a).find? (fun y => y.1 == a + j) = some (a + j, .i kk k, v k)
  | [], _, _, _, h => by simp at h
  | k :: r, a, 0, _, h => by simp at h; subst h; simp [MVf]
  | k :: r, a, j + 1, q, h => by
    have := find_at kk v r (a + 1) j q (by simpa using h)
    rw [show a + 1 + j = a + (j + 1) by omega] at this
    simp only [MVf, List.find?_cons]
    rw [show ((a == a + (j + 1)) = false) by simp, this]
theorem ent_MV {e : Opd → Val} {H : Heap} {x : Opd} {id mid j : Nat} {kk : IntKind} {ks : List Int} {v : Int → Val} {seen : List Nat} {k : Int} (hx : e x = .p id 0) (hi : H[id]? = some (.iter mid ks.length (seen ++ [j]) ks.length)) (hm : H[mid]? = some (.map (MV kk ks v) ks.length)) (hk : ks[j]? = some k) :
    (IOp.ent x).step e H = some (.tup [.i kk k, v k], H) := by
  have := find_at kk v ks 0 j k hk
  rw [Nat.zero_add] at this
  simp only [IOp.step, hx, hi, hm, List.getLast?_append, List.getLast?_singleton, Option.some_or, if_true, MV, this]
/-- How many are not seen yet. -/
def unseen (n : Nat) (seen : List Nat) : Nat := ((List.range n).filter fun j => !seen.contains j).length
theorem unseen_lt {n j : Nat} {seen : List Nat} (hj : j < n) (h : j ∉ seen) : unseen n (seen ++ [j]) < unseen n seen := by
  unfold unseen
  have key : ∀ l : List Nat, j ∈ l → (l.filter fun i => !(seen ++ [j]).contains i).length < (l.filter fun i => !seen.contains i).length := by
    intro l
    have le : ∀ l : List Nat, (l.filter fun i => !(seen ++ [j]).contains i).length ≤ (l.filter fun i => !seen.contains i).length := by
      intro l
      induction l with
      | nil => simp
      | cons x l ih =>
        simp only [List.filter_cons]
        by_cases h1 : x ∈ seen
        · simp [h1]; simpa using ih
        · by_cases h2 : x = j
          · subst h2; simp [h1]; have := ih; simp at this; omega
          · simp [h1, h2]; simpa using ih
    induction l with
    | nil => intro h; simp at h
    | cons x l ih =>
      intro hm
      simp only [List.filter_cons]
      by_cases h2 : x = j
      · subst h2
        have := le l
        simp [h]; simp at this; omega
      · have hm' : j ∈ l := by rcases List.mem_cons.1 hm with q | q; (· exact absurd q.symm h2); exact q
        have := ih hm'
        by_cases h1 : x ∈ seen
        · simp [h1]; simpa using this
        · simp [h1, h2]; simpa using this
  exact key _ (List.mem_range.2 hj)
theorem MV_ren {ι : Nat → Nat} (kk : IntKind) (v : Int → Val) (hv : ∀ k, (v k).ren ι = v k) : ∀ (ks : List Int) (n : Nat), (MVf kk v ks n).map (fun x => (x.1, x.2.1.ren ι, x.2.2.ren ι)) = MVf kk v ks n
  | [], _ => rfl
  | k :: r, n => by simp only [MVf, List.map_cons, MV_ren kk v hv r, hv, Val.ren]
theorem MV_wf {m : Nat} (kk : IntKind) (v : Int → Val) (hv : ∀ k, (v k).wf m = true) : ∀ (ks : List Int) (n : Nat), ((MVf kk v ks n).all fun x => x.2.1.wf m && x.2.2.wf m) = true
  | [], _ => rfl
  | k :: r, n => by simp only [MVf, List.all_cons, MV_wf kk v hv r, hv, Val.wf, Bool.and_self]
theorem rn_rw (ι : Nat → Nat) (c : List Val) : (AObj.rw c).ren ι = .rw (renL ι c) := rfl
theorem rn_ro (ι : Nat → Nat) (c : List Val) : (AObj.ro c).ren ι = .ro (renL ι c) := rfl
theorem rn_map (ι : Nat → Nat) (es : List (Nat × Val × Val)) (ck : Nat) : (AObj.map es ck).ren ι = .map (es.map fun x => (x.1, x.2.1.ren ι, x.2.2.ren ι)) ck := rfl
theorem rn_iter (ι : Nat → Nat) (a b d : Nat) (c : List Nat) : (AObj.iter a b c d).ren ι = .iter (ι a) b c d := rfl
theorem rn_dead (ι : Nat → Nat) : AObj.dead.ren ι = .dead := rfl
theorem wn_rw (m : Nat) (c : List Val) : (AObj.rw c).wf m = wfL m c := rfl
theorem wn_ro (m : Nat) (c : List Val) : (AObj.ro c).wf m = wfL m c := rfl
theorem wn_map (m : Nat) (es : List (Nat × Val × Val)) (ck : Nat) : (AObj.map es ck).wf m = es.all fun x => x.2.1.wf m && x.2.2.wf m := rfl
theorem wn_iter (m a b d : Nat) (c : List Nat) : (AObj.iter a b c d).wf m = decide (a < m) := rfl
theorem wn_dead (m : Nat) : AObj.dead.wf m = true := rfl

/-- A drawn region, step by step, with what was read kept in view. -/
structure RunD (P : Program) (pre : Nat → Nat → Bool) (its : List RItem) (ord : List Nat) (wt : Watch) (ρ : Env) (H : Heap) (K : Env → Heap → Prop) : Prop where
  out : EvD P pre its ord wt ρ H K
section
variable {P : Program} {N m : Nat} {pre : Nat → Nat → Bool} {its : List RItem} {r ms ord : List Nat} {wt : Watch} {ρ : Env} {H H' : Heap} {K : Env → Heap → Prop} {i d t : Nat} {io : IOp} {v : Val} {b : Bool} {g : FuncId} {f : Opd} {xs : List Opd} {va vb vs : List Val}
theorem RunD.nil (h : K ρ H) : RunD P pre its [] wt ρ H K := ⟨h⟩
theorem RunD.op0 (hi : its[i]? = some (.op (some d) none io)) (h0 : io.sort = 0) (h : io.step (Opd.ev ρ) H = some (v, H')) (k : RunD P pre its r wt ((d, v) :: ρ) H' K) : RunD P pre its (i :: r) wt ρ H K :=
  ⟨by simp only [EvD, hi, RItem.g, guardOk, h, h0, putv]; simpa using k.out⟩
theorem RunD.op1 (hi : its[i]? = some (.op (some d) none io)) (h0 : io.sort = 1) (h : io.step (Opd.ev ρ) H = some (v, H')) (k : RunD P pre its r ((i, fun K' => io.step (Opd.ev ρ) K' = some (v, K')) :: wt) ((d, v) :: ρ) H' K) : RunD P pre its (i :: r) wt ρ H K :=
  ⟨by simp only [EvD, hi, RItem.g, guardOk, h, h0, putv]; simpa using k.out⟩
theorem RunD.call (hi : its[i]? = some (.call (some d) none f xs)) (hf : f.ev ρ = .fn (.func g) va vb) (hv : va ++ xs.map (Opd.ev ρ) ++ vb = vs) (k : SoundCall P g vs H (fun v H' => recheck pre wt i H' ∧ RunD P pre its r wt ((d, v) :: ρ) H' K)) : RunD P pre its (i :: r) wt ρ H K :=
  ⟨by simp only [EvD, hi, RItem.g, guardOk, EvItem, putv, hf, hv]; exact k.mono fun v H' q => ⟨q.1, q.2.out⟩⟩
theorem recheck_nil {H : Heap} : recheck pre [] i H := fun x hx => by simp at hx
theorem recheck_cons {x : Nat × (Heap → Prop)} {H : Heap} (h : pre x.1 i = true ∨ x.2 H) (h' : recheck pre wt i H) : recheck pre (x :: wt) i H := fun y hy => by
  rcases List.mem_cons.1 hy with rfl | hy
  · exact h
  · exact h' y hy
theorem ei_dregD {Q : Exit → Env → Heap → Prop} (h : RunD P (preOf ms) its ord [] ρ H (fun ρ' H' => Q .normal ρ' H')) : EvI P N m (.dreg its ord ms) ρ H Q := ei_dreg h.out
end
section
variable {P : Program}
/-- Objects that stand for nothing may be told, too. -/
theorem PostM.more {m : Nat} {σ : Names} {H : Heap} {w : World} {Q R : Val → Heap → Prop} {e : Ending} {w' : World} (h : PostM m σ H w Q e w') (hq : ∀ v H', Q v H' → R v (H' ++ [.dead])) : PostM m σ H w R e w' := by
  obtain ⟨v, c, H', σ', rfl, hv, hQ, hr, hs⟩ := h
  refine ⟨v, c, _, σ', rfl, hv, hq v H' hQ, hr.grow _, ⟨hs.ext, by have := hs.len; simp; omega, hs.size, hs.keep, ?_, ?_, hs.rest, ?_⟩⟩
  all_goals
    have back : ∀ x, x < H'.length → (H' ++ [AObj.dead])[x]? = H'[x]? := fun x h => List.getElem?_append_left h
  · rintro id l h2 ⟨q, a, b⟩
    exact hs.fresh id l h2 ⟨q, by rw [← back id (hr.dom id l h2)]; exact a, b⟩
  · rintro id h1 ⟨q, a, b⟩
    exact hs.live id h1 ⟨q, by rw [← back id (Nat.lt_of_lt_of_le h1 hs.len)]; exact a, b⟩
  · rintro id l h2 ⟨q, a, b⟩
    exact hs.ro id l h2 ⟨q, by rw [← back id (hr.dom id l h2)]; exact a, b⟩
theorem SoundM.more {m : Nat} {f : FuncId} {vs : List Val} {H : Heap} {Q R : Val → Heap → Prop} (h : SoundM P m f vs H Q) (hq : ∀ v H', Q v H' → R v (H' ++ [.dead])) : SoundM P m f vs H R := by
  refine ⟨h.1, fun σ w cs r l => ?_⟩
  rcases h.2 σ w cs r l with ⟨g, h1, h2⟩ | ⟨c, w', h1, h2⟩
  · exact .inl ⟨g, h1, h2.mono fun e w' q => q.more hq⟩
  · exact .inr ⟨c, w', h1, h2.more hq⟩
end
end Go.Proofs.Ytjahkgfihdngkaa.Ev
/- This text of a proof shows: slices that grow from nil, told by one form; an object that is dead may be added. -/
namespace Go.Proofs.Ytjahkgfihdngkaa.Ev
open Go
variable {P : Program} {N m : Nat}
theorem pad_get {H : Heap} {x : Nat} {o : AObj} (h : (H ++ [AObj.dead])[x]? = some o) (hn : o ≠ .dead) : H[x]? = some o := by
  rcases Nat.lt_or_ge x H.length with hx | hx
  · rwa [List.getElem?_append_left hx] at h
  · rw [List.getElem?_append_right hx] at h
    have : x - H.length = 0 := by
      rcases Nat.eq_zero_or_pos (x - H.length) with h0 | h0
      · exact h0
      · rw [List.getElem?_eq_none (by simp; omega)] at h; cases h
    rw [this] at h
    simp at h
    exact absurd h.symm hn
theorem pad_live {H : Heap} {x : Nat} : Live (H ++ [AObj.dead]) x ↔ Live H x := by
  constructor
  · rintro ⟨o, h1, h2⟩; exact ⟨o, pad_get h1 (by rintro rfl; cases h2), h2⟩
  · rintro ⟨o, h1, h2⟩; exact ⟨o, by rw [List.getElem?_append_left (List.getElem?_eq_some_iff.1 h1).1]; exact h1, h2⟩
theorem pad_ro {H : Heap} {x : Nat} : Ro (H ++ [AObj.dead]) x ↔ Ro H x := by
  constructor
  · rintro ⟨o, h1, h2⟩; exact ⟨o, pad_get h1 (by rintro rfl; cases h2), h2⟩
  · rintro ⟨o, h1, h2⟩; exact ⟨o, by rw [List.getElem?_append_left (List.getElem?_eq_some_iff.1 h1).1]; exact h1, h2⟩
theorem Rel.pad {σ : Names} {H : Heap} {w : World} (r : Rel σ H w) : Rel σ (H ++ [.dead]) w := by
  refine ⟨⟨fun id l hs => by have := r.dom id l hs; simp; omega, fun id l o hs ho => ?_, r.blk, fun x y lx ly hx hy h1 h2 h3 => ?_⟩, fun x hx => ?_⟩
  · by_cases hd : o = .dead
    · subst hd; trivial
    · exact r.obj id l o hs (pad_get ho hd)
  · exact r.inj x y lx ly hx hy (pad_live.1 h1) (h2.imp pad_live.1 pad_ro.1) h3
  · obtain ⟨h1, h2, h3⟩ := r.fix x hx
    exact ⟨h1, h2, fun id l hs hl => h3 id l hs (pad_live.1 hl)⟩
theorem StepM.unpad {m : Nat} {σ σ' : Names} {H H' : Heap} {w w' : World} (s : StepM m σ (H ++ [.dead]) w σ' H' w') : StepM m σ H w σ' H' w' :=
  ⟨s.ext, s.len, s.size, fun bl hb hn => s.keep bl hb fun id l hs hl => hn id l hs (pad_live.1 hl), fun id l hs hl => by
    rcases s.fresh id l hs hl with h | ⟨x, lx, h1, h2, h3⟩
    · exact .inl h
    · exact .inr ⟨x, lx, h1, pad_live.1 h2, h3⟩, fun id hi hl => pad_live.1 (s.live id hi hl), s.rest, fun id l hs hl => by
    obtain ⟨x, lx, h1, h2, h3⟩ := s.ro id l hs hl
    exact ⟨x, lx, h1, pad_ro.1 h2, h3⟩⟩
/-- An object that is dead is added. -/
theorem ei_pad {ic : ICode} {ρ : Env} {H : Heap} {Q : Exit → Env → Heap → Prop} (h : EvI P N m ic ρ (H ++ [.dead]) Q) : EvI P N m ic ρ H Q := by
  intro c hc ro hf b D σ w a hm r ar mk hb
  refine wpIn_mono (h c hc ro hf b D σ w a (by simp; omega) r.pad ar ⟨fun d hd => ?_, mk.apart⟩ hb) ?_
  · obtain ⟨q, h1, h2, h3, h4⟩ := mk.at_ d hd
    exact ⟨q, h1, h2, h3, fun id l hs hl => h4 id l hs (hl.imp pad_live.1 pad_ro.1)⟩
  · rintro e a' w' ⟨ρ', H', σ', D', hq, hr, har, hk, hs⟩
    exact ⟨ρ', H', σ', D', hq, hr, har, hk, hs.unpad⟩

/-- A slice that is nil (none), or stands between other cells. -/
abbrev GO := Option (List Val × List Val)
def gV : GO → Nat → Nat → Nat → Val
  | none, _, _, _ => .nils
  | some (j, _), id, n, sz => .sl id j.length n sz
def gO : GO → List Val → AObj
  | none, _ => .dead
  | some (j, k), c => .rw (j ++ (c ++ k))
def gNew : GO := some ([], [])
theorem gV_some (j k : List Val) (id n sz : Nat) : gV (some (j, k)) id n sz = .sl id j.length n sz := rfl
theorem gO_some (j k c : List Val) : gO (some (j, k)) c = .rw (j ++ (c ++ k)) := rfl
theorem gNew_ne : gNew ≠ none := by simp [gNew]
theorem gV_none (id n sz : Nat) : gV none id n sz = .nils := rfl
theorem gO_none (c : List Val) : gO none c = .dead := rfl
theorem gV_new (id n sz : Nat) : gV gNew id n sz = .sl id 0 n sz := rfl
theorem gO_new (c : List Val) : gO gNew c = .rw c := by simp [gO, gNew]
theorem gV_ren (ι : Nat → Nat) (o : GO) (id n sz : Nat) : (gV o id n sz).ren ι = gV o (ι id) n sz := by
  rcases o with _ | ⟨j, k⟩ <;> rfl
theorem gV_wf {k : Nat} (o : GO) {id : Nat} (n sz : Nat) (h : id < k) : (gV o id n sz).wf k = true := by
  rcases o with _ | ⟨j, l⟩
  · rfl
  · simp [gV, Val.wf, h]
/-- What stands beside names no object. -/
def gC : GO → Prop
  | none => True
  | some (j, k) => (∀ ι, renL ι j = j) ∧ (∀ m, wfL m j = true) ∧ (∀ ι, renL ι k = k) ∧ ∀ m, wfL m k = true
theorem gC_new : gC gNew := ⟨fun _ => rfl, fun _ => rfl, fun _ => rfl, fun _ => rfl⟩
theorem gO_ren {ι : Nat → Nat} {o : GO} {c : List Val} (h : gC o) (hc : renL ι c = c) : (gO o c).ren ι = gO o c := by
  rcases o with _ | ⟨j, k⟩
  · rfl
  · simp [gO, AObj.ren, renL_append, h.1, h.2.2.1, hc]
theorem gO_wf {m : Nat} {o : GO} {c : List Val} (h : gC o) (hc : wfL m c = true) : (gO o c).wf m = true := by
  rcases o with _ | ⟨j, k⟩
  · rfl
  · simp [gO, AObj.wf, wfL_append, h.2.1, h.2.2.2, hc]
theorem gV_no (o : GO) (id n sz : Nat) : Val.lenNo (gV o id n sz) = 2 := by rcases o with _ | ⟨j, k⟩ <;> rfl
theorem gV_kn (o : GO) (id n sz : Nat) : Val.kindNo (gV o id n sz) = 3 := by rcases o with _ | ⟨j, k⟩ <;> rfl
theorem gV_len {o : GO} {n : Nat} (h : o = none → n = 0) (id sz : Nat) (H : Heap) : lenOf (gV o id n sz) H = some (.i .i64 (n : Nat)) := by
  rcases o with _ | ⟨j, k⟩
  · rw [h rfl]; rfl
  · rfl
theorem set_get_self {α : Type} {l : List α} {i : Nat} {x : α} (h : l[i]? = some x) : l.set i x = l := by
  apply List.ext_getElem?
  intro j
  by_cases e : i = j
  · subst e; rw [List.getElem?_set_self (List.getElem?_eq_some_iff.1 h).1, h]
  · rw [List.getElem?_set_ne e]
/-- One value is appended. -/
theorem gApp {e : Opd → Val} {H : Heap} {x y : Opd} {o : GO} {c new : List Val} {id n sz bytes j : Nat} (hx : e x = gV o id n sz) (hH : H[id]? = some (gO o c)) (hc : c.length = n * sz) (hn : o = none → n = 0)
    (hy : e y = .sl j 0 1 sz) (hj : H[j]? = some (.rw new)) (hl : new.length = sz) (hb : (n + 1) * bytes ≤ 140737488355328) :
    (IOp.app sz bytes x y).step e H = some (gV gNew H.length (n + 1) sz, H.set id .dead ++ [gO gNew (c ++ new)]) := by
  have hw : window H (.sl j 0 1 sz) sz = some new := by
    simp only [window, if_true, hj]
    rw [if_pos (by omega), List.drop_zero, Nat.one_mul, List.take_of_length_le (by omega)]
  simp only [IOp.step, hx, hy, hw]
  rcases o with _ | ⟨a, b⟩
  · obtain rfl := hn rfl
    have hc' : c = [] := List.length_eq_zero_iff.1 (by omega)
    subst hc'
    have hw1 : window H (gV none id 0 sz) sz = some [] := rfl
    rw [hw1]
    dsimp only
    rw [if_pos (show ((gV none id 0 sz).slen + (Val.sl j 0 1 sz).slen) * bytes ≤ 140737488355328 from hb)]
    rw [set_get_self (show H[id]? = some AObj.dead from hH)]
    simp [gV, gO, gNew, Val.slen]
  · have hw2 : window H (gV (some (a, b)) id n sz) sz = some c := by
      simp only [gV, window, if_true, hH, gO]
      rw [if_pos (by simp [hc])]
      simp [← hc]
    rw [hw2]
    dsimp only
    rw [if_pos (show ((gV (some (a, b)) id n sz).slen + (Val.sl j 0 1 sz).slen) * bytes ≤ 140737488355328 from hb)]
    simp only [gV, hH, gO, gNew, Val.slen]
    simp
/-- What is known behind a block's part, told anew. -/
theorem ei_midB {id : Nat} {x : ICode} {ρ : Env} {H : Heap} {K : Env → Heap → Prop} {Q : Exit → Env → Heap → Prop} (M : Env → Heap → Prop) (h : EvI P N m x ρ H (blockQ id (thenQ M Q))) (k : ∀ ρ' H', M ρ' H' → K ρ' H') : EvI P N m x ρ H (blockQ id (thenQ K Q)) :=
  h.mono (fun e ρ' H' q => by
    cases e with
    | exit i =>
      simp only [blockQ] at q ⊢
      split
      · rename_i hi; rw [if_pos hi] at q; exact k _ _ q
      · rename_i hi; rw [if_neg hi] at q; exact q
    | normal => exact k _ _ q
    | _ => exact q)
end Go.Proofs.Ytjahkgfihdngkaa.Ev
/- Loops over functions: what yield does, and the statement. -/
namespace Go.Proofs.Ytjahkgfihdngkaa.Ev
open Go
variable {P : Program} {N m : Nat}

/-- yield's arguments laid. -/
def bindEnv : List Nat → List Val → Env → Env
  | p :: ps, v :: vs, ρ => bindEnv ps vs ((p, v) :: ρ)
  | _, _, ρ => ρ

theorem bind_rel {N : Nat} {σ : Names} : ∀ {ps : List Nat} {vs : List Val} {cs : List Value} {ρ : Env} {tmps : Array Value}, ps.length = vs.length → vs.length = cs.length → (∀ p ∈ ps, p < N) →
    (∀ (j : Nat) (v : Val) (c : Value), vs[j]? = some v → cs[j]? = some c → VRel σ v c) → ARel N [] σ ρ { tmps := tmps, defers := [] } →
    ARel N [] σ (bindEnv ps vs ρ) { tmps := (ps.zip cs).foldl (fun t x => t.setIfInBounds x.1 x.2) tmps, defers := [] }
  | [], _, _, _, _, _, _, _, _, ar => by simpa [bindEnv] using ar
  | _ :: _, [], _, _, _, h, _, _, _, _ => by simp at h
  | _ :: _, _ :: _, [], _, _, _, h, _, _, _ => by simp at h
  | p :: ps, v :: vs, c :: cs, ρ, tmps, h1, h2, h3, h4, ar => by
    simp only [bindEnv, List.zip_cons_cons, List.foldl_cons]
    refine bind_rel (by simpa using h1) (by simpa using h2) (fun q hq => h3 q (by simp [hq])) (fun j v c a b => h4 (j + 1) v c (by simpa using a) (by simpa using b)) ?_
    have := ar.put (h3 p (by simp)) (h4 0 v c rfl rfl)
    simpa [Act.put] using this

/-- How a round ends. -/
def roundQ (id N : Nat) (ρ : Env) (ps : List Nat) (asg body : Code) (K : Val → Heap → Prop) : Exit → Env → Heap → Prop
  | .normal, _, H => H[id]? = some (.loop .busy none N ρ ps asg body) ∧ K (.b true) (H.set id (.loop .ready none N ρ ps asg body))
  | .ret, _, H => H[id]? = some (.loop .busy none N ρ ps asg body) ∧ K (.b false) (H.set id (.loop .done (some .ret) N ρ ps asg body))
  | .exit i, _, H => H[id]? = some (.loop .busy none N ρ ps asg body) ∧ K (.b false) (H.set id (.loop .done (some (.exit i)) N ρ ps asg body))
  | _, _, _ => False

theorem end_round {σ : Names} {H : Heap} {w : World} (r : Rel σ H w) {id : Nat} {lo : Loc} (hs : σ id = some lo) {ρ : Env} {ps : List Nat} {asg body : Code} {st : LoopState} {pd : Option Code} (ho : H[id]? = some (.loop st pd N ρ ps asg body)) (jump : Option Code) :
    ∃ w', (Instr.endRound lo.blk jump).run P w = .ok (.bool jump.isNone) w' ∧ Rel σ (H.set id (.loop (if jump.isNone then .ready else .done) jump N ρ ps asg body)) w' ∧
      Step σ H w σ (H.set id (.loop (if jump.isNone then .ready else .done) jump N ρ ps asg body)) w' := by
  obtain ⟨q, h1, h2, h3, h4, h5, h6, h7, h8⟩ := r.obj id lo _ hs ho
  have hb := r.blk id lo hs
  refine ⟨_, run_endRound jump h1, ?_⟩
  exact r.setO (ob := .loop { q with state := if jump.isNone then .ready else .done, pending := jump }) hs ho rfl rfl rfl ⟨rfl, rfl, rfl⟩
    ⟨_, World.putObj_heap_same hb, rfl, rfl, h4, h5, h6, h7, h8⟩

theorem yield_ev {id : Nat} {vs : List Val} {H : Heap} {K : Val → Heap → Prop} {ρ : Env} {ps : List Nat} {asg body : Code} {ia ib : ICode} (ho : H[id]? = some (.loop .ready none N ρ ps asg body))
    (ha : compC P N asg = some ia) (hb : compC P N body = some ib) (hfa : ia.flat = true) (hfb : ib.flat = true) (hps : ∀ p ∈ ps, p < N) (hl : ps.length = vs.length)
    (h : EvI P N H.length ia (bindEnv ps vs ρ) H (fun e ρ1 H1 => e = .normal ∧ H1[id]? = some (.loop .ready none N ρ ps asg body) ∧
      EvI P N H.length ib ρ1 (H1.set id (.loop .busy none N ρ ps asg body)) (roundQ id N ρ ps asg body K))) : YieldM P id vs H K := by
  intro σ w cs lo r l hs
  obtain ⟨q, h1, h2, h3, h4, h5, h6, h7, h8⟩ := r.obj id lo _ hs ho
  have hsz : cs.size = q.params.size := by
    have := l.1
    rw [← hl, ← h4] at this
    simpa using this.symm
  refine ⟨q.fn, (q.params.zip cs).foldl (fun tmps (x : Tmp × Value) => tmps.setIfInBounds x.1 x.2) q.tmps, asg, body, ?_, ?_⟩
  · rw [run_yield h1 hsz, h5, h6]
  · refine roundIn_of_wpIn trivial ?_
    have har : ARel N [] σ (bindEnv ps vs ρ) { tmps := (q.params.zip cs).foldl (fun tmps (x : Tmp × Value) => tmps.setIfInBounds x.1 x.2) q.tmps, defers := [] } := by
      have := bind_rel (ps := ps) (vs := vs) (cs := cs.toList) (ρ := ρ) (tmps := q.tmps) hl (by simpa using l.1) hps (fun j v c a b => l.2 j v c a (by simpa using b))
        ⟨h7, rfl, fun t => by have := h8 t; rwa [Array.getD_eq_getD_getElem?] at this ⊢⟩
      rw [← h4] at this ⊢
      rw [← Array.foldl_toList, Array.toList_zip]
      exact this
    refine wpIn_mono (h asg ha (some lo.blk) (.inr hfa) 0 [] σ w _ (Nat.le_refl _) r har Mk.nil (Nat.zero_le _)) ?_
    rintro e a1 w1 ⟨ρ1, H1, σ1, D1, ⟨rfl, ho1, hbody⟩, r1, ar1, mk1, s1⟩
    have hs1 : σ1 id = some lo := by rw [s1.ext id (r.dom id lo hs)]; exact hs
    obtain ⟨q1, g1, g2, g3, g4, g5, g6, g7, g8⟩ := r1.obj id lo _ hs1 ho1
    have hb1 := r1.blk id lo hs1
    obtain ⟨r2, s2⟩ := r1.setO (o' := .loop .busy none N ρ ps asg body) (ob := .loop { q1 with state := .busy }) (w' := w1.putObj lo.blk (.loop { q1 with state := .busy })) hs1 ho1 rfl rfl rfl ⟨rfl, rfl, rfl⟩
      ⟨_, World.putObj_heap_same hb1, rfl, g3, g4, g5, g6, g7, g8⟩
    refine ⟨_, run_beginRound g1 g2, ?_⟩
    have s12 := s1.trans' s2 s1.len
    refine wpIn_mono (hbody body hb (some lo.blk) (.inr hfb) 0 D1 σ1 _ a1 (by simpa using s1.len) r2 ar1 (Mk.step mk1 s2) (Nat.zero_le _)) ?_
    rintro e a2 w2 ⟨ρ2, H2, σ2, D2, hq, r3, ar3, mk3, s3⟩
    have s123 := s12.trans' s3 (Nat.le_refl _)
    have hs2 : σ2 id = some lo := by rw [s3.ext id (r.dom id lo hs)]; exact hs1
    have fin : ∀ (jump : Option Code), H2[id]? = some (.loop .busy none N ρ ps asg body) → K (.b jump.isNone) (H2.set id (.loop (if jump.isNone then .ready else .done) jump N ρ ps asg body)) →
        ∃ v w', (Instr.endRound lo.blk jump).run P w2 = .ok v w' ∧ (fun e w' => ∃ v c H' σ', e = Ending.returned c ∧ VRel σ' v c ∧ K v H' ∧ Rel σ' H' w' ∧ Step σ H w σ' H' w') (.returned v) w' := by
      intro jump k1 k2
      obtain ⟨w', k3, k4, k5⟩ := end_round (P := P) r3 hs2 k1 jump
      exact ⟨_, w', k3, _, _, _, σ2, rfl, .b _, k2, k4, s123.trans' k5 s3.len⟩
    cases e with
    | normal => exact fin none hq.1 hq.2
    | ret => exact fin (some .ret) hq.1 hq.2
    | exit i => exact fin (some (.exit i)) hq.1 hq.2
    | _ => exact hq.elim

/-- A block that nobody names. -/
theorem Rel.hidden {σ : Names} {H : Heap} {w : World} (r : Rel σ H w) (ob : Obj) : Rel σ H (w.alloc ob) ∧ Step σ H w σ H (w.alloc ob) := by
  have hold : ∀ bl, bl < w.heap.size → (w.alloc ob).heap[bl]? = w.heap[bl]? := by
    intro bl hb
    show (w.heap.push ob)[bl]? = _
    simp [Array.getElem?_push, Nat.ne_of_lt hb]
  refine r.with ⟨⟨r.dom, fun id l o hs ho => (r.obj id l o hs ho).congr (hold _ (r.blk id l hs)), fun id l hs => ?_, r.inj⟩, ?_⟩
  · have := r.blk id l hs
    simp; omega
  · exact StepM.of (fun _ _ => rfl) (Nat.le_refl _) (by simp) (fun bl hb _ => hold bl hb) (fun id l h hs _ => by have := r.dom id l hs; omega) (fun _ _ h => h) ⟨rfl, rfl, rfl⟩
      (fun id h => ⟨by obtain ⟨o, h1, _⟩ := h; exact (List.getElem?_eq_some_iff.1 h1).1, h⟩)

def loopQ (L N : Nat) (ps : List Nat) (asg body : Code) (ρ : Env) (Q : Exit → Env → Heap → Prop) : Val → Heap → Prop := fun _ H1 =>
  ∃ st pd ρr, H1[L]? = some (.loop st pd N ρr ps asg body) ∧ st ≠ .busy ∧
    match pd with
    | none => Q .normal ρ (H1.set L .dead)
    | some .ret => Q .ret ρ (H1.set L .dead)
    | some (.exit i) => Q (.exit i) ρ (H1.set L .dead)
    | _ => False

theorem ei_rf {g : Opd} {ps : List Nat} {ia ib : ICode} {ρ : Env} {H : Heap} {Q : Exit → Env → Heap → Prop} {f : FuncId} {va vb : List Val} (hg : g.ev ρ = .fn (.func f) va vb)
    (h : ∀ asg body, compC P N asg = some ia → compC P N body = some ib → ia.flat = true → ib.flat = true → (∀ p ∈ ps, p < N) →
      SoundE P (H.length + 1) f (va ++ [.yld H.length] ++ vb) (H ++ [.loop .ready none N ρ ps asg body]) (loopQ H.length N ps asg body ρ Q)) : EvI P N m (.rf g ps ia ib) ρ H Q := by
  intro k hc ro hf b D σ w a hm r ar mk hb
  obtain rfl : ro = none := hf.resolve_right (by simp [ICode.flat])
  cases k <;> simp only [compC] at hc
  case rangeFunc g' ps' asg body =>
    split at hc
    · rename_i g'' x y k1 k2 k3
      split at hc
      · rename_i hcond
        cases hc
        simp only [Bool.and_eq_true, List.all_eq_true, decide_eq_true_eq] at hcond
        have hS := h asg body k2 k3 hcond.1.2 hcond.2 hcond.1.1
        have hfr := opd_rel ar k1
        rw [hg] at hfr
        generalize hq : a.eval g' = q at hfr
        cases hfr with
        | fn _ ha hb' ra rb =>
          rename_i a' b'
          obtain ⟨rh, sh⟩ := r.hidden (.deferred (some []))
          refine wpIn_rangeFunc fun fn _ => ?_
          have hne := run_enterLoop_outer (P := P) (w := w) fn a.tmps ps' asg body
          generalize hw1 : w.alloc (.deferred (some [])) = w1 at *
          have hsz1 : w1.heap.size = w.heap.size + 1 := by rw [← hw1]; simp
          have hdef : w1.heap[w.heap.size]? = some (.deferred (some [])) := by rw [← hw1]; exact World.alloc_heap_new _ _
          obtain ⟨r2, s2⟩ := rh.allocO (o := .loop .ready none N ρ ps'.toList asg body) (ob := .loop { state := .ready, pending := none, fn := fn, tmps := a.tmps, params := ps', assign := asg, body := body, defers := w.heap.size }) (sz := 0)
            (w' := w1.alloc (.loop { state := .ready, pending := none, fn := fn, tmps := a.tmps, params := ps', assign := asg, body := body, defers := w.heap.size })) rfl rfl ⟨rfl, rfl, rfl⟩
            ⟨_, World.alloc_heap_new _ _, rfl, rfl, rfl, rfl, rfl, ar.size, fun t => by
              have := (ar.vals t).mono (Names.le_add (l := ⟨w1.heap.size, 0, 0⟩) (rh.none_at (Nat.le_refl _)))
              rwa [Array.getD_eq_getD_getElem?] at this ⊢⟩
          generalize hw2 : w1.alloc (.loop { state := .ready, pending := none, fn := fn, tmps := a.tmps, params := ps', assign := asg, body := body, defers := w.heap.size }) = w2 at *
          generalize hσ2 : σ.add H.length ⟨w1.heap.size, 0, 0⟩ = σ2 at *
          have s02 : Step σ H w σ2 (H ++ [.loop .ready none N ρ ps'.toList asg body]) w2 := sh.trans' s2 (Nat.le_refl _)
          have hle : σ.le σ2 := s02.le r.dom
          have hL : σ2 H.length = some ⟨w1.heap.size, 0, 0⟩ := by rw [← hσ2]; exact Names.add_same ..
          have hl : LRel σ2 (va ++ [.yld H.length] ++ vb) (a' ++ #[.func (.yield w1.heap.size) #[] #[]] ++ b') := by
            refine ⟨by simp; omega, fun j v c hj hcj => ?_⟩
            by_cases c1 : j < va.length
            · rw [List.getElem?_append_left (by simp; omega), List.getElem?_append_left c1] at hj
              rw [Array.getElem?_append_left (by simp; omega), Array.getElem?_append_left (by omega)] at hcj
              exact (ra j v c hj hcj).mono hle
            · by_cases c2 : j = va.length
              · subst c2
                rw [List.getElem?_append_left (by simp), List.getElem?_append_right (by omega)] at hj
                rw [Array.getElem?_append_left (by simp; omega), Array.getElem?_append_right (by omega)] at hcj
                simp [ha] at hj hcj
                subst hj; subst hcj
                exact .yld hL
              · rw [List.getElem?_append_right (by simp; omega)] at hj
                rw [Array.getElem?_append_right (by simp; omega)] at hcj
                have e1 : j - (va ++ [Val.yld H.length]).length = j - (va.length + 1) := by simp
                have e2 : j - (a' ++ #[Value.func (.yield w1.heap.size) #[] #[]]).size = j - (va.length + 1) := by simp [ha]
                rw [e1] at hj
                rw [e2] at hcj
                exact (rb _ v c hj hcj).mono hle
          obtain ⟨hent, hcall⟩ := hS.2 σ2 w2 _ r2 hl
          refine ⟨w.heap.size + 1, _, w2, { target := .fn (.func f) b', args := a' ++ #[.func (.yield w1.heap.size) #[] #[]] }, w2, f, _, w2, hne, ?_, fun _ _ => trivial, ?_, fun h => (by cases h), callsIn_fz (hcall.mono ?_)⟩
          · simp [resolve, Deferred.ofValue, hq, hsz1]; rfl
          · simpa [invoke] using hent
          · rintro _ w3 ⟨v, c, H3, σ3, rfl, hv, ⟨st, pd, ρr, ho, hst, hQ⟩, r3, s3⟩
            have hL3 : σ3 H.length = some ⟨w1.heap.size, 0, 0⟩ := by rw [s3.ext _ (by omega)]; exact hL
            obtain ⟨q3, g1, g2, g3, g4, g5, g6, g7, g8⟩ := r3.obj _ _ _ hL3 ho
            have hb3 := r3.blk _ _ hL3
            obtain ⟨r4, s4⟩ := r3.setO (o' := .loop .exhausted pd N ρr ps'.toList asg body) (ob := .loop { q3 with state := .exhausted }) (w' := w3.putObj w1.heap.size (.loop { q3 with state := .exhausted })) hL3 ho rfl rfl rfl ⟨rfl, rfl, rfl⟩
              ⟨_, World.putObj_heap_same hb3, rfl, g3, g4, g5, g6, g7, g8⟩
            obtain ⟨r5, s5⟩ := r4.kill H.length
            rw [set_set_H] at r5 s5
            generalize hw4 : w3.putObj w1.heap.size (.loop { q3 with state := .exhausted }) = w4 at *
            have s35 : StepM (H.length + 1) σ3 H3 w3 σ3 (H3.set H.length .dead) w4 := by
              have hl3 : H.length + 1 ≤ H3.length := s3.len
              exact (StepM.refl (H.length + 1) σ3 H3 w3 hl3).trans' (s4.trans' s5 (by simp)) hl3
            have s05 : StepM m σ H w σ3 (H3.set H.length .dead) w4 := (StepM.refl m σ H w hm).trans' ((s02.trans' s3 (by omega)).trans' s35 (by omega)) hm
            have sm3 : StepM (H.length + 1) σ2 (H ++ [.loop .ready none N ρ ps'.toList asg body]) w2 σ3 (H3.set H.length .dead) w4 := s3.trans' s35 (Nat.le_refl _)
            have mkh : Mk b ({ target := .collected w.heap.size, args := #[] } :: D) σ H w1 := by
              have mk1 := Mk.step mk sh
              refine ⟨fun d hd => ?_, List.pairwise_cons.2 ⟨fun d hd he => ?_, mk.apart⟩⟩
              · rcases List.mem_cons.1 hd with rfl | hd
                · exact ⟨_, rfl, hb, hdef, fun id l hs _ he => by have := r.blk id l hs; omega⟩
                · exact mk1.at_ d hd
              · obtain ⟨r0, e1, e2, e3, e4⟩ := mk.at_ d hd
                rw [e1] at he
                simp at he
                have := (Array.getElem?_eq_some_iff.1 e3).1
                omega
            have mk5 : Mk b ({ target := .collected w.heap.size, args := #[] } :: D) σ3 (H3.set H.length .dead) w4 := Mk.step (Mk.step mkh s2) sm3
            have ar5 : ARel N ({ target := .collected w.heap.size, args := #[] } :: D) σ3 ρ { a with defers := [{ target := .collected w.heap.size, args := #[] }] ++ a.defers } := by
              refine ⟨ar.size, by simp [ar.defers], fun t => ?_⟩
              refine (((ar.vals t).mono hle).mono ?_)
              intro id l hs
              have := r2.dom id l hs
              rw [s3.ext id (by simpa using this)]; exact hs
            have hend := run_endLoop (P := P) g1 (by rw [g2]; exact hst)
            rw [hw4, g3] at hend
            rw [hsz1] at hend
            refine ⟨pd, w4, hend, ?_⟩
            cases pd with
            | none => exact ⟨ρ, _, σ3, _, hQ, r5, ar5, mk5, s05⟩
            | some c =>
              cases c with
              | ret => exact wpIn_ret ⟨ρ, _, σ3, _, hQ, r5, ar5, mk5, s05⟩
              | exit i => exact wpIn_exit ⟨ρ, _, σ3, _, hQ, r5, ar5, mk5, s05⟩
              | _ => exact hQ.elim
      · cases hc
    · cases hc
  all_goals (exfalso; (repeat' split at hc) <;> cases hc)
end Go.Proofs.Ytjahkgfihdngkaa.Ev
/- Loops over functions, for runs told step by step. -/
namespace Go.Proofs.Ytjahkgfihdngkaa.Ev
open Go
variable {P : Program} {N m : Nat}
theorem Run.yld {r : List RItem} {ρ : Env} {H : Heap} {K : Env → Heap → Prop} {d id : Nat} {f : Opd} {xs : List Opd} {vs : List Val} (hf : f.ev ρ = .yld id) (hv : xs.map (Opd.ev ρ) = vs)
    (k : YieldM P id vs H (fun v H' => Run P r ((d, v) :: ρ) H' K)) : Run P (.call (some d) none f xs :: r) ρ H K :=
  ⟨by simp only [EvItems, guardOk, EvItem, RItem.g, RItem.d, putv, hf, hv]; exact YieldM.mono k fun v H' q => q.out⟩
theorem yield_run {id : Nat} {vs : List Val} {H : Heap} {K : Val → Heap → Prop} {ρ : Env} {ps : List Nat} {asg body : Code} {ia ib : ICode} (ho : H[id]? = some (.loop .ready none N ρ ps asg body))
    (ha : compC P N asg = some ia) (hb : compC P N body = some ib) (hfa : ia.flat = true) (hfb : ib.flat = true) (hps : ∀ p ∈ ps, p < N) (hl : ps.length = vs.length) {ρ' : Env} (hρ : bindEnv ps vs ρ = ρ')
    (h : EvI P N H.length ia ρ' H (thenQ (fun ρ1 H1 => H1[id]? = some (.loop .ready none N ρ ps asg body) ∧
      EvI P N H.length ib ρ1 (H1.set id (.loop .busy none N ρ ps asg body)) (roundQ id N ρ ps asg body K)) (fun _ _ _ => False))) : YieldM P id vs H K := by
  subst hρ
  refine yield_ev ho ha hb hfa hfb hps hl (h.mono ?_)
  intro e ρ1 H1 q
  cases e with
  | normal => exact ⟨rfl, q⟩
  | _ => exact q.elim
theorem loopQ.mk {L : Nat} {ps : List Nat} {asg body : Code} {ρ : Env} {Q : Exit → Env → Heap → Prop} {v : Val} {H1 : Heap} {st : LoopState} {ρr : Env} (h : H1[L]? = some (.loop st none N ρr ps asg body)) (hs : st ≠ .busy) (hq : Q .normal ρ (H1.set L .dead)) :
    loopQ L N ps asg body ρ Q v H1 := ⟨_, _, _, h, hs, hq⟩
theorem loopQ.mkR {L : Nat} {ps : List Nat} {asg body : Code} {ρ : Env} {Q : Exit → Env → Heap → Prop} {v : Val} {H1 : Heap} {st : LoopState} {ρr : Env} (h : H1[L]? = some (.loop st (some .ret) N ρr ps asg body)) (hs : st ≠ .busy) (hq : Q .ret ρ (H1.set L .dead)) :
    loopQ L N ps asg body ρ Q v H1 := ⟨_, _, _, h, hs, hq⟩
theorem loopQ.mkE {L i : Nat} {ps : List Nat} {asg body : Code} {ρ : Env} {Q : Exit → Env → Heap → Prop} {v : Val} {H1 : Heap} {st : LoopState} {ρr : Env} (h : H1[L]? = some (.loop st (some (.exit i)) N ρr ps asg body)) (hs : st ≠ .busy) (hq : Q (.exit i) ρ (H1.set L .dead)) :
    loopQ L N ps asg body ρ Q v H1 := ⟨_, _, _, h, hs, hq⟩
theorem rn_loop (ι : Nat → Nat) (st : LoopState) (pd : Option Code) (n : Nat) (ρ : Env) (ps : List Nat) (a b : Code) : (AObj.loop st pd n ρ ps a b).ren ι = .loop st pd n (ρ.map fun x => (x.1, x.2.ren ι)) ps a b := rfl
theorem wn_loop (k : Nat) (st : LoopState) (pd : Option Code) (n : Nat) (ρ : Env) (ps : List Nat) (a b : Code) : (AObj.loop st pd n ρ ps a b).wf k = ρ.all fun x => x.2.wf k := rfl
end Go.Proofs.Ytjahkgfihdngkaa.Ev
