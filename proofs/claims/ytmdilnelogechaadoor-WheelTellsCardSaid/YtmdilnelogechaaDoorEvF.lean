/- This text of the evaluator proves: the steps of a walk. No condition. -/
import Derived.Test.YtmdilnelogechaaDoorEvE
set_option linter.unusedVariables false
set_option linter.unusedSimpArgs false
set_option linter.constructorNameAsVariable false
/- Laws for runs told step by step: regions whose order does not matter at all, rows of equal elements, numbers that do not wrap, the state told anew. -/
namespace Go.Proofs.YtmdilnelogechaaDoor.Ev
open Go
variable {P : Program} {N m : Nat}

-- regions whose drawn order is settled where it matters
def acts : RItem → Bool
  | .call _ _ _ _ => true
  | .any _ _ _ => true
  | .op _ _ io => io.sort == 3
def looks : RItem → Bool
  | .call _ _ _ _ => false
  | .any _ _ _ => false
  | .op _ _ io => io.sort == 1 || io.sort == 2
def statOk (pre : Nat → Nat → Bool) (its : List RItem) : List Nat → List Nat → Bool
  | _, [] => true
  | seen, i :: r => match its[i]? with
    | none => false
    | some it => (!acts it || seen.all (fun x => pre x i)) && statOk pre its (if looks it then i :: seen else seen) r
def inOrd (its : List RItem) : List Nat → List RItem
  | [] => []
  | i :: r => match its[i]? with
    | some it => it :: inOrd its r
    | none => []

theorem EvD_of_items {pre : Nat → Nat → Bool} {its : List RItem} {K : Env → Heap → Prop} : ∀ (ord seen : List Nat) (wt : Watch) (ρ : Env) (H : Heap), statOk pre its seen ord = true → (∀ x ∈ wt, x.1 ∈ seen) →
    EvItems P (inOrd its ord) ρ H K → EvD P pre its ord wt ρ H K
  | [], _, _, _, _, _, _, h => h
  | i :: r, seen, wt, ρ, H, hs, hw, h => by
    simp only [statOk] at hs
    simp only [EvD]
    cases hi : its[i]? with
    | none => rw [hi] at hs; cases hs
    | some it =>
      rw [hi] at hs
      simp only [Bool.and_eq_true] at hs
      obtain ⟨h1, h2⟩ := hs
      simp only [inOrd, hi, EvItems] at h
      have hmore : ∀ (j : List Nat), (∀ y ∈ seen, y ∈ j) → ∀ x ∈ wt, x.1 ∈ j := fun j hj x hx => hj _ (hw x hx)
      have hsub : ∀ y ∈ seen, y ∈ (if looks it then i :: seen else seen) := by intro y hy; split; exact List.mem_cons_of_mem _ hy; exact hy
      have hre : acts it = true → ∀ H', recheck pre wt i H' := by
        intro ha H' x hx
        simp only [ha, Bool.not_true, Bool.false_or, List.all_eq_true] at h1
        exact .inl (h1 _ (hw x hx))
      simp only []
      split
      · rename_i hg; rw [hg] at h; exact h
      · rename_i hg; rw [hg] at h
        exact EvD_of_items r _ wt _ H h2 (hmore _ hsub) h
      · rename_i hg; rw [hg] at h
        simp only at h
        cases it with
        | call d g f xs =>
          simp only [EvItem] at h ⊢
          split
          · rename_i f' a b hf
            rw [hf] at h
            exact h.mono fun v H' q => ⟨hre rfl H', EvD_of_items r _ wt _ H' h2 (hmore _ hsub) q⟩
          · rename_i id hf
            rw [hf] at h
            exact YieldM.mono h fun v H' q => ⟨hre rfl H', EvD_of_items r _ wt _ H' h2 (hmore _ hsub) q⟩
          · rename_i hf hf2
            split at h
            · rename_i f' a b hf'; exact absurd hf' (hf _ _ _)
            · rename_i id hf'; exact absurd hf' (hf2 _)
            · exact h
        | any d g no =>
          simp only [EvItem] at h ⊢
          split
          · rename_i l hl
            rw [hl] at h
            exact fun x hx => ⟨hre rfl x.2, EvD_of_items r _ wt _ x.2 h2 (hmore _ hsub) (h x hx)⟩
          · rename_i hl; rw [hl] at h; exact h
        | op d g io =>
          simp only [EvItem] at h ⊢
          split
          · rename_i hst; rw [hst] at h; exact h
          · rename_i v H' hst; rw [hst] at h
            simp only at h
            split
            · rename_i h3
              exact ⟨hre (by simp [acts, h3]) H', EvD_of_items r _ wt _ H' h2 (hmore _ hsub) h⟩
            · split
              · rename_i h3
                refine EvD_of_items r _ _ _ H' h2 ?_ h
                intro x hx
                rcases List.mem_cons.1 hx with rfl | hx
                · simp [looks, h3]
                · exact hmore _ hsub x hx
              · split
                · rename_i h3
                  refine EvD_of_items r _ _ _ H' h2 ?_ h
                  intro x hx
                  rcases List.mem_cons.1 hx with rfl | hx
                  · simp [looks, h3]
                  · exact hmore _ hsub x hx
                · exact EvD_of_items r _ wt _ H' h2 (hmore _ hsub) h

theorem ei_dregS {its : List RItem} {ord ms : List Nat} {ρ : Env} {H : Heap} {Q : Exit → Env → Heap → Prop} (hs : statOk (preOf ms) its [] ord = true) (h : EvItems P (inOrd its ord) ρ H (fun ρ' H' => Q .normal ρ' H')) : EvI P N m (.dreg its ord ms) ρ H Q :=
  ei_dreg (EvD_of_items ord [] [] ρ H hs (fun x hx => by cases hx) h)

theorem look_more {io : IOp} {e : Opd → Val} {H : Heap} {v : Val} (h1 : io.sort = 1) (h : io.step e H = some (v, H)) (J : Heap) : io.step e (H ++ J) = some (v, H ++ J) := by
  have hg : ∀ (id : Nat) (o : AObj), H[id]? = some o → (H ++ J)[id]? = some o := fun id o ho => by
    rw [List.getElem?_append_left (List.getElem?_eq_some_iff.1 ho).1]; exact ho
  cases io with
  | ld1 a =>
    simp only [IOp.step] at h ⊢
    split at h
    · rename_i id off hp
      split at h
      · rename_i c hc; rw [hg _ _ hc]; simp only
        obtain ⟨x, hx, h5⟩ := Option.map_eq_some_iff.1 h
        cases h5; rw [hx]; rfl
      · rename_i c hc; rw [hg _ _ hc]; simp only
        obtain ⟨x, hx, h5⟩ := Option.map_eq_some_iff.1 h
        cases h5; rw [hx]; rfl
      · cases h
    · cases h
  | ldn n a =>
    simp only [IOp.step] at h ⊢
    split at h
    · rename_i id off hp
      split at h
      · rename_i c hc; rw [hg _ _ hc]; simp only
        split at h
        · rename_i hl; rw [if_pos hl]; cases h; rfl
        · cases h
      · rename_i c hc; rw [hg _ _ hc]; simp only
        split at h
        · rename_i hl; rw [if_pos hl]; cases h; rfl
        · cases h
      · cases h
    · cases h
  | len k x =>
    simp only [IOp.step] at h ⊢
    split at h
    · rename_i hk
      rw [if_pos hk]
      obtain ⟨y, hy, h5⟩ := Option.map_eq_some_iff.1 h
      cases h5
      have : lenOf (e x) (H ++ J) = some v := by
        unfold lenOf at hy ⊢
        split at hy
        · exact hy
        · exact hy
        · exact hy
        · exact hy
        · split at hy
          · rename_i es hes; rw [hg _ _ hes]; exact hy
          · cases hy
        · cases hy
      rw [this]; rfl
    · cases h
  | ent x =>
    simp only [IOp.step] at h ⊢
    split at h
    · split at h
      · rename_i mid since seen last ho
        split at h
        · rename_i b es ck hb hom
          rw [hg _ _ ho]
          simp only [hb, hg _ _ hom]
          split at h
          · rename_i hq
            rw [if_pos hq]
            split at h
            · cases h; rfl
            · cases h
          · cases h
        · cases h
      · cases h
    · cases h
  | lkp kk ok z x ix =>
    simp only [IOp.step] at h ⊢
    split at h
    · rename_i hk
      rw [if_pos hk]
      split at h
      · cases h; rfl
      · split at h
        · rename_i es ck hes
          rw [hg _ _ hes]
          simp only
          split at h
          · cases h; rfl
          · cases h; rfl
          · cases h
        · cases h
      · cases h
    · cases h
  | _ => cases h1

/-- As EvItems; a call leaves the objects as they are. -/
def EvItemsP (P : Program) : List RItem → Env → Heap → (Env → Heap → Prop) → Prop
  | [], ρ, H, K => K ρ H
  | it :: r, ρ, H, K => match guardOk it.g ρ with
    | some true => EvItem P it (Opd.ev ρ) H (fun v H' => (∀ d g f xs, it = .call d g f xs → H' = H) ∧ EvItemsP P r (putv it.d v ρ) H' K)
    | some false => EvItemsP P r (putv it.d skipV ρ) H K
    | none => False
def isSt : RItem → Bool
  | .call _ _ _ _ => false
  | .any _ _ _ => true
  | .op _ _ io => io.sort == 3
def statP (pre : Nat → Nat → Bool) (its : List RItem) : Bool → List Nat → List Nat → Bool
  | _, _, [] => true
  | dirty, seen, i :: r => match its[i]? with
    | none => false
    | some it => (!(isSt it || (acts it && dirty)) || seen.all (fun x => pre x i)) && statP pre its (dirty || isSt it) (if looks it then i :: seen else seen) r

theorem EvD_of_itemsP {pre : Nat → Nat → Bool} {its : List RItem} {K : Env → Heap → Prop} : ∀ (ord : List Nat) (dirty : Bool) (seen : List Nat) (wt : Watch) (ρ : Env) (H : Heap), statP pre its dirty seen ord = true → (∀ x ∈ wt, x.1 ∈ seen) →
    (dirty = false → ∀ x ∈ wt, ∀ J, x.2 (H ++ J)) → EvItemsP P (inOrd its ord) ρ H K → EvD P pre its ord wt ρ H K
  | [], _, _, _, _, _, _, _, _, h => h
  | i :: r, dirty, seen, wt, ρ, H, hs, hw, hd, h => by
    simp only [statP] at hs
    simp only [EvD]
    cases hi : its[i]? with
    | none => rw [hi] at hs; cases hs
    | some it =>
      rw [hi] at hs
      simp only [Bool.and_eq_true] at hs
      obtain ⟨h1, h2⟩ := hs
      simp only [inOrd, hi, EvItemsP] at h
      have hmore : ∀ (j : List Nat), (∀ y ∈ seen, y ∈ j) → ∀ x ∈ wt, x.1 ∈ j := fun j hj x hx => hj _ (hw x hx)
      have hsub : ∀ y ∈ seen, y ∈ (if looks it then i :: seen else seen) := by intro y hy; split; exact List.mem_cons_of_mem _ hy; exact hy
      have hdd : (dirty || isSt it) = false → dirty = false := by intro q; cases dirty; rfl; cases q
      have hre : (isSt it || (acts it && dirty)) = true → ∀ H', recheck pre wt i H' := by
        intro ha H' x hx
        simp only [ha, Bool.not_true, Bool.false_or, List.all_eq_true] at h1
        exact .inl (h1 _ (hw x hx))
      simp only []
      split
      · rename_i hg; rw [hg] at h; exact h
      · rename_i hg; rw [hg] at h
        exact EvD_of_itemsP r _ _ wt _ H h2 (hmore _ hsub) (fun q => hd (hdd q)) h
      · rename_i hg; rw [hg] at h
        simp only at h
        cases it with
        | call d g f xs =>
          simp only [EvItem] at h ⊢
          split
          · rename_i f' a b hf
            rw [hf] at h
            refine h.mono fun v H' q => ?_
            obtain ⟨q1, q2⟩ := q
            have e := q1 _ _ _ _ rfl
            subst e
            refine ⟨?_, EvD_of_itemsP r _ _ wt _ H' h2 (hmore _ hsub) (fun q => hd (hdd q)) q2⟩
            cases hdi : dirty with
            | true => exact hre (by simp [isSt, acts, hdi]) H'
            | false => exact fun x hx => .inr (by simpa using hd hdi x hx [])
          · rename_i id hf
            rw [hf] at h
            refine YieldM.mono h fun v H' q => ?_
            obtain ⟨q1, q2⟩ := q
            have e := q1 _ _ _ _ rfl
            subst e
            refine ⟨?_, EvD_of_itemsP r _ _ wt _ H' h2 (hmore _ hsub) (fun q => hd (hdd q)) q2⟩
            cases hdi : dirty with
            | true => exact hre (by simp [isSt, acts, hdi]) H'
            | false => exact fun x hx => .inr (by simpa using hd hdi x hx [])
          · rename_i hf hf2
            split at h
            · rename_i f' a b hf'; exact absurd hf' (hf _ _ _)
            · rename_i id hf'; exact absurd hf' (hf2 _)
            · exact h
        | any d g no =>
          simp only [EvItem] at h ⊢
          split
          · rename_i l hl
            rw [hl] at h
            exact fun x hx => ⟨hre (by simp [isSt]) x.2, EvD_of_itemsP r _ _ wt _ x.2 h2 (hmore _ hsub) (fun q => absurd q (by simp [isSt])) (h x hx).2⟩
          · rename_i hl; rw [hl] at h; exact h
        | op d g io =>
          simp only [EvItem] at h ⊢
          split
          · rename_i hst; rw [hst] at h; exact h
          · rename_i v H' hst; rw [hst] at h
            simp only at h
            have hk := h.2
            clear h
            split
            · rename_i h3
              exact ⟨hre (by simp [isSt, h3]) H', EvD_of_itemsP r _ _ wt _ H' h2 (hmore _ hsub) (fun q => by simp [isSt, h3] at q) hk⟩
            · rename_i hn3
              have hsame : io.sort = 1 ∨ io.sort = 0 → H' = H := fun q => quiet_step hst q.symm
              split
              · rename_i h3
                obtain ⟨fv, l, _, _, hH⟩ := fresh_step hst h3
                refine EvD_of_itemsP r _ _ _ _ H' h2 ?_ (fun q => ?_) hk
                · intro x hx
                  rcases List.mem_cons.1 hx with rfl | hx
                  · simp [looks, h3]
                  · exact hmore _ hsub x hx
                · intro x hx J
                  rcases List.mem_cons.1 hx with rfl | hx
                  · simp only [hH]
                    rw [List.getElem?_append_left (by simp)]
                  · rw [hH, List.append_assoc]
                    exact hd (hdd q) x hx _
              · split
                · rename_i h3
                  have e := hsame (.inl h3)
                  subst e
                  refine EvD_of_itemsP r _ _ _ _ H' h2 ?_ (fun q => ?_) hk
                  · intro x hx
                    rcases List.mem_cons.1 hx with rfl | hx
                    · simp [looks, h3]
                    · exact hmore _ hsub x hx
                  · intro x hx J
                    rcases List.mem_cons.1 hx with rfl | hx
                    · exact look_more h3 hst J
                    · exact hd (hdd q) x hx J
                · rename_i hn2 hn1
                  have e := hsame (.inr (by have : io.sort ≤ 3 := by (cases io <;> simp only [IOp.sort] <;> (try split) <;> omega)
                                            omega))
                  subst e
                  exact EvD_of_itemsP r _ _ wt _ H' h2 (hmore _ hsub) (fun q => hd (hdd q)) hk

theorem ei_dregP {its : List RItem} {ord ms : List Nat} {ρ : Env} {H : Heap} {Q : Exit → Env → Heap → Prop} (hs : statP (preOf ms) its false [] ord = true) (h : EvItemsP P (inOrd its ord) ρ H (fun ρ' H' => Q .normal ρ' H')) : EvI P N m (.dreg its ord ms) ρ H Q :=
  ei_dreg (EvD_of_itemsP ord false [] [] ρ H hs (fun x hx => by cases hx) (fun _ x hx => by cases hx) h)

-- numbers
theorem wrap_i64 {x : Int} (h : -9223372036854775808 ≤ x ∧ x ≤ 9223372036854775807) : IntKind.i64.wrap x = x := by
  have e : IntKind.i64.wrap x = if x % 18446744073709551616 ≥ 9223372036854775808 then x % 18446744073709551616 - 18446744073709551616 else x % 18446744073709551616 := by
    unfold IntKind.wrap
    by_cases hc : x % 18446744073709551616 ≥ 9223372036854775808
    · rw [if_pos hc]
      exact if_pos (by rw [Bool.and_eq_true]; exact ⟨rfl, decide_eq_true hc⟩)
    · rw [if_neg hc]
      exact if_neg (by rw [Bool.and_eq_true]; exact fun h => hc (of_decide_eq_true h.2))
  rw [e]
  split <;> omega
theorem wrap_u64 {x : Int} (h : 0 ≤ x ∧ x ≤ 18446744073709551615) : IntKind.u64.wrap x = x := by
  simp only [IntKind.wrap, IntKind.bits, IntKind.signed]
  simp only [Bool.false_and, Bool.false_eq_true, if_false]
  omega
theorem wrap_u8 {x : Int} (h : 0 ≤ x ∧ x ≤ 255) : IntKind.u8.wrap x = x := by
  simp only [IntKind.wrap, IntKind.bits, IntKind.signed]
  simp only [Bool.false_and, Bool.false_eq_true, if_false]
  omega
theorem wrap_u16 {x : Int} (h : 0 ≤ x ∧ x ≤ 65535) : IntKind.u16.wrap x = x := by
  simp only [IntKind.wrap, IntKind.bits, IntKind.signed]
  simp only [Bool.false_and, Bool.false_eq_true, if_false]
  omega
theorem wrap_u32 {x : Int} (h : 0 ≤ x ∧ x ≤ 4294967295) : IntKind.u32.wrap x = x := by
  simp only [IntKind.wrap, IntKind.bits, IntKind.signed]
  simp only [Bool.false_and, Bool.false_eq_true, if_false]
  omega
theorem tmod_nn {a b : Int} (h : 0 ≤ a) : a.tmod b = a % b := Int.tmod_eq_emod_of_nonneg h
theorem tdiv_nn {a b : Int} (h : 0 ≤ a) : a.tdiv b = a / b := Int.tdiv_eq_ediv_of_nonneg h
theorem if_yes {α : Sort _} {c : Prop} [Decidable c] {a b : α} (h : c) : (if c then a else b) = a := if_pos h
theorem if_no {α : Sort _} {c : Prop} [Decidable c] {a b : α} (h : ¬ c) : (if c then a else b) = b := if_neg h
theorem z1 : ((1 : Nat) = 0) = False := by simp
theorem z2 : ((0 : Nat) = 1) = False := by simp

-- rows of equal elements
theorem getElem?_flat {α : Type} {vals : α → List Val} {k : Nat} (hk : ∀ x, (vals x).length = k) : ∀ (l : List α) (i j : Nat) (x : α), l[i]? = some x → j < k → (l.flatMap vals)[i * k + j]? = (vals x)[j]?
  | [], i, j, x, h, hj => by simp at h
  | y :: l, 0, j, x, h, hj => by
    simp at h; subst h
    simp only [List.flatMap_cons, Nat.zero_mul, Nat.zero_add]
    rw [List.getElem?_append_left (by rw [hk]; exact hj)]
  | y :: l, i + 1, j, x, h, hj => by
    simp at h
    simp only [List.flatMap_cons]
    rw [List.getElem?_append_right (by rw [hk, Nat.add_mul]; omega), hk, ← getElem?_flat hk l i j x h hj]
    congr 1
    rw [Nat.add_mul]; omega

theorem renL_flat {α : Type} {vals : α → List Val} (ι : Nat → Nat) (l : List α) (h : ∀ x, renL ι (vals x) = vals x) : renL ι (l.flatMap vals) = l.flatMap vals := by
  rw [renL_map, List.map_flatMap]
  congr 1
  funext x
  rw [← renL_map, h]
theorem renL_append (ι : Nat → Nat) (a b : List Val) : renL ι (a ++ b) = renL ι a ++ renL ι b := by simp [renL_map]
theorem wfL_append (m : Nat) : ∀ a b : List Val, wfL m (a ++ b) = (wfL m a && wfL m b)
  | [], b => by simp [wfL]
  | v :: a, b => by simp [wfL, wfL_append m a b, Bool.and_assoc]
theorem wfL_flat {α : Type} {vals : α → List Val} (m : Nat) (h : ∀ x, wfL m (vals x) = true) : ∀ l : List α, wfL m (l.flatMap vals) = true
  | [] => rfl
  | x :: l => by rw [List.flatMap_cons, wfL_append, h, wfL_flat m h l]; rfl

-- the state told anew, object by object
def embAt (ι : Nat → Nat) (H : Heap) : List Nat → Heap → Prop
  | _, [] => True
  | i :: r, o :: C => H[i]? = some (o.ren ι) ∧ embAt ι H r C
  | [], _ :: _ => False
def wfAll (m : Nat) : Heap → Prop
  | [] => True
  | o :: C => o.wf m = true ∧ wfAll m C
def nm (ids : List Nat) : Nat → Nat := fun x => ids.getD x 0
theorem embAt_get {ι : Nat → Nat} {H : Heap} : ∀ {ids : List Nat} {C : Heap}, embAt ι H ids C → ∀ (x : Nat) (o : AObj), C[x]? = some o → H[ids.getD x 0]? = some (o.ren ι)
  | _, [], _, x, o, h => by simp at h
  | i :: r, c :: C, h, 0, o, hx => by simp at hx; subst hx; exact h.1
  | i :: r, c :: C, h, x + 1, o, hx => by
    simp only [List.getElem?_cons_succ] at hx
    simpa using embAt_get h.2 x o hx
  | [], _ :: _, h, _, _, _ => h.elim
theorem wfAll_get {m : Nat} : ∀ {C : Heap}, wfAll m C → ∀ (x : Nat) (o : AObj), C[x]? = some o → o.wf m = true
  | [], _, x, o, h => by simp at h
  | c :: C, h, 0, o, hx => by simp at hx; subst hx; exact h.1
  | c :: C, h, x + 1, o, hx => wfAll_get h.2 x o (by simpa using hx)
theorem nodup_inj {ids : List Nat} (h : ids.Nodup) : ∀ x y, x < ids.length → y < ids.length → nm ids x = nm ids y → x = y := by
  intro x y hx hy he
  simp only [nm, List.getD_eq_getElem?_getD, List.getElem?_eq_getElem hx, List.getElem?_eq_getElem hy, Option.getD_some] at he
  have hp := List.pairwise_iff_getElem.1 h
  rcases Nat.lt_trichotomy x y with g | g | g
  · exact absurd he (hp x y hx hy g)
  · exact g
  · exact absurd he.symm (hp y x hy hx g)
theorem emb_of {ids : List Nat} {C H : Heap} (hlen : ids.length = C.length) (hnd : ids.Nodup) (hat : embAt (nm ids) H ids C) (hw : wfAll C.length C) : Emb (nm ids) C H where
  inj x y hx hy := nodup_inj hnd x y (by omega) (by omega)
  at_ := embAt_get hat
  wf := wfAll_get hw

theorem get_absent : ∀ (ρ : Env) (t : Nat), (∀ x ∈ ρ, x.1 ≠ t) → ρ.get t = .u
  | [], _, _ => rfl
  | (k, v) :: r, t, h => by
    simp only [Env.get]
    rw [if_neg (h (k, v) (by simp))]
    exact get_absent r t fun x hx => h x (by simp [hx])

/-- The state told anew: the objects `ids` of H are the objects of C. -/
theorem ei_anew (ids : List Nat) (C : Heap) (ρ0 : Env) {ic : ICode} {ρ : Env} {H : Heap} {Q : Exit → Env → Heap → Prop} (hlen : ids.length = C.length) (hnd : ids.Nodup) (hat : embAt (nm ids) H ids C) (hw : wfAll C.length C)
    (hm : m ≤ C.length) (hid : ids.take m = List.range m) (hρ : ρ0.all (fun x => wfL C.length [x.2]) = true) (hρ' : ∀ x ∈ ρ0, ρ.get x.1 = (ρ0.get x.1).ren (nm ids)) (h : EvI P N m ic ρ0 C Q) : EvI P N m ic ρ H Q := by
  refine EvI.rename (ρ0 := ρ0) (emb_of hlen hnd hat hw) hm ?_ ?_ ?_ h
  · intro x hx
    have : (ids.take m)[x]? = (List.range m)[x]? := by rw [hid]
    rw [List.getElem?_take, if_pos hx, List.getElem?_range hx] at this
    simp [nm, this]
  · intro t
    rw [renEnv_get]
    by_cases ht : ∃ x ∈ ρ0, x.1 = t
    · obtain ⟨x, hx, rfl⟩ := ht
      exact .inl (hρ' x hx)
    · exact .inr (get_absent ρ0 t fun x hx e => ht ⟨x, hx, e⟩)
  · simp only [wfEnv, List.all_eq_true] at hρ ⊢
    intro x hx
    have := hρ x hx
    simpa [wfL] using this
end Go.Proofs.YtmdilnelogechaaDoor.Ev
/- Runs told step by step: one rule for each kind of step. -/
namespace Go.Proofs.YtmdilnelogechaaDoor.Ev
open Go
variable {P : Program} {N m : Nat}

/-- The items of a region, one behind the other. -/
structure Run (P : Program) (its : List RItem) (ρ : Env) (H : Heap) (K : Env → Heap → Prop) : Prop where
  out : EvItems P its ρ H K

section
variable {its r : List RItem} {ρ : Env} {H H' : Heap} {K : Env → Heap → Prop} {d t : Nat} {v : Val} {io : IOp} {b : Bool}
theorem Ea (h : K ρ H) : Run P [] ρ H K := ⟨h⟩
theorem Aa (h : io.step (Opd.ev ρ) H = some (v, H')) (k : Run P r ((d, v) :: ρ) H' K) : Run P (.op (some d) none io :: r) ρ H K :=
  ⟨by simp only [EvItems, guardOk, EvItem, RItem.g, RItem.d, h, putv]; exact k.out⟩
theorem Ab (h : io.step (Opd.ev ρ) H = some (v, H')) (k : Run P r ρ H' K) : Run P (.op none none io :: r) ρ H K :=
  ⟨by simp only [EvItems, guardOk, EvItem, RItem.g, RItem.d, h, putv]; exact k.out⟩
theorem Ag (hg : ρ.get t = .b b) (h : io.step (Opd.ev ρ) H = some (v, H')) (k : Run P r ((d, v) :: ρ) H' K) : Run P (.op (some d) (some (t, b)) io :: r) ρ H K :=
  ⟨by simp only [EvItems, guardOk, EvItem, RItem.g, RItem.d, h, putv, hg, BEq.rfl]; exact k.out⟩
theorem Ba (hg : ρ.get t = .b (!b)) (k : Run P r ((d, skipV) :: ρ) H K) : Run P (.op (some d) (some (t, b)) io :: r) ρ H K :=
  ⟨by simp only [EvItems, guardOk, RItem.g, RItem.d, putv, hg, Bool.not_beq_self]; exact k.out⟩
theorem Ca (hg : ρ.get t = skipV) (k : Run P r ((d, skipV) :: ρ) H K) : Run P (.op (some d) (some (t, b)) io :: r) ρ H K :=
  ⟨by simp only [EvItems, guardOk, RItem.g, RItem.d, putv, hg, skipV]; exact k.out⟩
theorem Cb {f : Opd} {xs : List Opd} (hg : ρ.get t = skipV) (k : Run P r ((d, skipV) :: ρ) H K) : Run P (.call (some d) (some (t, b)) f xs :: r) ρ H K :=
  ⟨by simp only [EvItems, guardOk, RItem.g, RItem.d, putv, hg, skipV]; exact k.out⟩
/-- A guard that is not known: both ways. -/
theorem Run.guard {x : Bool} {it : RItem} (_hi : it.g = some (t, b)) (_hg : ρ.get t = .b x) (hy : x = b → Run P (it :: r) ρ H K) (hn : x = (!b) → Run P (it :: r) ρ H K) : Run P (it :: r) ρ H K := by
  cases x <;> cases b <;> first | exact hy rfl | exact hn rfl
variable {o : Option Nat} {f : Opd} {g : FuncId} {va vb vs : List Val} {xs : List Opd}
theorem Run.call (hf : f.ev ρ = .fn (.func g) va vb) (hv : va ++ xs.map (Opd.ev ρ) ++ vb = vs) (k : SoundCall P g vs H (fun v H' => Run P r ((d, v) :: ρ) H' K)) : Run P (.call (some d) none f xs :: r) ρ H K :=
  ⟨by simp only [EvItems, guardOk, EvItem, RItem.g, RItem.d, putv, hf, hv]; exact k.mono fun v H' q => q.out⟩
theorem Run.call0 (hf : f.ev ρ = .fn (.func g) va vb) (hv : va ++ xs.map (Opd.ev ρ) ++ vb = vs) (k : SoundCall P g vs H (fun _ H' => Run P r ρ H' K)) : Run P (.call none none f xs :: r) ρ H K :=
  ⟨by simp only [EvItems, guardOk, EvItem, RItem.g, RItem.d, putv, hf, hv]; exact k.mono fun v H' q => q.out⟩
theorem Run.callY (hg : ρ.get t = .b b) (hf : f.ev ρ = .fn (.func g) va vb) (hv : va ++ xs.map (Opd.ev ρ) ++ vb = vs) (k : SoundCall P g vs H (fun v H' => Run P r ((d, v) :: ρ) H' K)) : Run P (.call (some d) (some (t, b)) f xs :: r) ρ H K :=
  ⟨by simp only [EvItems, guardOk, EvItem, RItem.g, RItem.d, putv, hf, hv, hg, BEq.rfl]; exact k.mono fun v H' q => q.out⟩
theorem Bb (hg : ρ.get t = .b (!b)) (k : Run P r ((d, skipV) :: ρ) H K) : Run P (.call (some d) (some (t, b)) f xs :: r) ρ H K :=
  ⟨by simp only [EvItems, guardOk, RItem.g, RItem.d, putv, hg, Bool.not_beq_self]; exact k.out⟩
end

section
variable {r : List RItem} {ρ : Env} {H H' : Heap} {K : Env → Heap → Prop} {d t : Nat} {v : Val} {no : NOp} {b : Bool} {l : List (Val × Heap)}
/-- An operation with more than one outcome. -/
theorem Run.any (h : no.step (Opd.ev ρ) H = some l) (k : ∀ x ∈ l, Run P r ((d, x.1) :: ρ) x.2 K) : Run P (.any (some d) none no :: r) ρ H K :=
  ⟨by simp only [EvItems, guardOk, EvItem, RItem.g, RItem.d, h, putv]; exact fun x hx => (k x hx).out⟩
theorem Na (h : no.step (Opd.ev ρ) H = some [(v, H')]) (k : Run P r ((d, v) :: ρ) H' K) : Run P (.any (some d) none no :: r) ρ H K :=
  Run.any h fun x hx => by obtain rfl := List.mem_singleton.1 hx; exact k
theorem Nb (h : no.step (Opd.ev ρ) H = some [(v, H')]) (k : Run P r ρ H' K) : Run P (.any none none no :: r) ρ H K :=
  ⟨by simp only [EvItems, guardOk, EvItem, RItem.g, RItem.d, h, putv]; intro x hx; obtain rfl := List.mem_singleton.1 hx; exact k.out⟩
theorem Nc (hg : ρ.get t = .b b) (h : no.step (Opd.ev ρ) H = some [(v, H')]) (k : Run P r ((d, v) :: ρ) H' K) : Run P (.any (some d) (some (t, b)) no :: r) ρ H K :=
  ⟨by simp only [EvItems, guardOk, EvItem, RItem.g, RItem.d, h, putv, hg, BEq.rfl]; intro x hx; obtain rfl := List.mem_singleton.1 hx; exact k.out⟩
theorem Nd (hg : ρ.get t = .b (!b)) (k : Run P r ((d, skipV) :: ρ) H K) : Run P (.any (some d) (some (t, b)) no :: r) ρ H K :=
  ⟨by simp only [EvItems, guardOk, RItem.g, RItem.d, putv, hg, Bool.not_beq_self]; exact k.out⟩
theorem Ne (hg : ρ.get t = skipV) (k : Run P r ((d, skipV) :: ρ) H K) : Run P (.any (some d) (some (t, b)) no :: r) ρ H K :=
  ⟨by simp only [EvItems, guardOk, RItem.g, RItem.d, putv, hg, skipV]; exact k.out⟩
end

/-- As Run; a call leaves the objects as they are. -/
structure RunP (P : Program) (its : List RItem) (ρ : Env) (H : Heap) (K : Env → Heap → Prop) : Prop where
  out : EvItemsP P its ρ H K
section
variable {its r : List RItem} {ρ : Env} {H H' : Heap} {K : Env → Heap → Prop} {d t : Nat} {v : Val} {io : IOp} {b : Bool}
theorem Eb (h : K ρ H) : RunP P [] ρ H K := ⟨h⟩
theorem Ac (h : io.step (Opd.ev ρ) H = some (v, H')) (k : RunP P r ((d, v) :: ρ) H' K) : RunP P (.op (some d) none io :: r) ρ H K :=
  ⟨by simp only [EvItemsP, guardOk, EvItem, RItem.g, RItem.d, h, putv]; exact ⟨fun _ _ _ _ e => (by cases e), k.out⟩⟩
theorem Ad (h : io.step (Opd.ev ρ) H = some (v, H')) (k : RunP P r ρ H' K) : RunP P (.op none none io :: r) ρ H K :=
  ⟨by simp only [EvItemsP, guardOk, EvItem, RItem.g, RItem.d, h, putv]; exact ⟨fun _ _ _ _ e => (by cases e), k.out⟩⟩
theorem Ah (hg : ρ.get t = .b b) (h : io.step (Opd.ev ρ) H = some (v, H')) (k : RunP P r ((d, v) :: ρ) H' K) : RunP P (.op (some d) (some (t, b)) io :: r) ρ H K :=
  ⟨by simp only [EvItemsP, guardOk, EvItem, RItem.g, RItem.d, h, putv, hg, BEq.rfl]; exact ⟨fun _ _ _ _ e => (by cases e), k.out⟩⟩
theorem Bc (hg : ρ.get t = .b (!b)) (k : RunP P r ((d, skipV) :: ρ) H K) : RunP P (.op (some d) (some (t, b)) io :: r) ρ H K :=
  ⟨by simp only [EvItemsP, guardOk, RItem.g, RItem.d, putv, hg, Bool.not_beq_self]; exact k.out⟩
theorem Cc (hg : ρ.get t = skipV) (k : RunP P r ((d, skipV) :: ρ) H K) : RunP P (.op (some d) (some (t, b)) io :: r) ρ H K :=
  ⟨by simp only [EvItemsP, guardOk, RItem.g, RItem.d, putv, hg, skipV]; exact k.out⟩
theorem Cd {f : Opd} {xs : List Opd} (hg : ρ.get t = skipV) (k : RunP P r ((d, skipV) :: ρ) H K) : RunP P (.call (some d) (some (t, b)) f xs :: r) ρ H K :=
  ⟨by simp only [EvItemsP, guardOk, RItem.g, RItem.d, putv, hg, skipV]; exact k.out⟩
theorem RunP.guard {x : Bool} {it : RItem} (_hi : it.g = some (t, b)) (_hg : ρ.get t = .b x) (hy : x = b → RunP P (it :: r) ρ H K) (hn : x = (!b) → RunP P (it :: r) ρ H K) : RunP P (it :: r) ρ H K := by
  cases x <;> cases b <;> first | exact hy rfl | exact hn rfl
variable {f : Opd} {g : FuncId} {va vb vs : List Val} {xs : List Opd}
theorem RunP.call (hf : f.ev ρ = .fn (.func g) va vb) (hv : va ++ xs.map (Opd.ev ρ) ++ vb = vs) (k : SoundCall P g vs H (fun v H' => H' = H ∧ RunP P r ((d, v) :: ρ) H K)) : RunP P (.call (some d) none f xs :: r) ρ H K :=
  ⟨by simp only [EvItemsP, guardOk, EvItem, RItem.g, RItem.d, putv, hf, hv]; exact k.mono fun v H' q => by
        obtain ⟨rfl, q⟩ := q
        exact ⟨fun _ _ _ _ _ => rfl, q.out⟩⟩
theorem RunP.callY (hg : ρ.get t = .b b) (hf : f.ev ρ = .fn (.func g) va vb) (hv : va ++ xs.map (Opd.ev ρ) ++ vb = vs) (k : SoundCall P g vs H (fun v H' => H' = H ∧ RunP P r ((d, v) :: ρ) H K)) : RunP P (.call (some d) (some (t, b)) f xs :: r) ρ H K :=
  ⟨by simp only [EvItemsP, guardOk, EvItem, RItem.g, RItem.d, putv, hf, hv, hg, BEq.rfl]; exact k.mono fun v H' q => by
        obtain ⟨rfl, q⟩ := q
        exact ⟨fun _ _ _ _ _ => rfl, q.out⟩⟩
theorem Bd (hg : ρ.get t = .b (!b)) (k : RunP P r ((d, skipV) :: ρ) H K) : RunP P (.call (some d) (some (t, b)) f xs :: r) ρ H K :=
  ⟨by simp only [EvItemsP, guardOk, RItem.g, RItem.d, putv, hg, Bool.not_beq_self]; exact k.out⟩
end

section
variable {ρ : Env} {H : Heap} {Q : Exit → Env → Heap → Prop} {x y z : ICode} {its : List RItem} {ord ms : List Nat} {id : Nat}
theorem Ec (h : Run P its ρ H (fun ρ' H' => EvI P N m y ρ' H' Q)) : EvI P N m (.seq (.reg its) y) ρ H Q := Ee (ei_reg h.out)
theorem Dg (hs : statOk (preOf ms) its [] ord = true) {its' : List RItem} (ho : inOrd its ord = its') (h : Run P its' ρ H (fun ρ' H' => EvI P N m y ρ' H' Q)) : EvI P N m (.seq (.dreg its ord ms) y) ρ H Q := Ee (ei_dregS hs (ho ▸ h.out))
theorem Ed (h : Run P its ρ H (fun ρ' H' => Q .normal ρ' H')) : EvI P N m (.reg its) ρ H Q := ei_reg h.out
theorem Dh (hs : statOk (preOf ms) its [] ord = true) {its' : List RItem} (ho : inOrd its ord = its') (h : Run P its' ρ H (fun ρ' H' => Q .normal ρ' H')) : EvI P N m (.dreg its ord ms) ρ H Q := ei_dregS hs (ho ▸ h.out)
theorem Df (hs : statP (preOf ms) its false [] ord = true) {its' : List RItem} (ho : inOrd its ord = its') (h : RunP P its' ρ H (fun ρ' H' => Q .normal ρ' H')) : EvI P N m (.dreg its ord ms) ρ H Q := ei_dregP hs (ho ▸ h.out)
theorem De (hs : statP (preOf ms) its false [] ord = true) {its' : List RItem} (ho : inOrd its ord = its') (h : RunP P its' ρ H (fun ρ' H' => EvI P N m y ρ' H' Q)) : EvI P N m (.seq (.dreg its ord ms) y) ρ H Q := Ee (Df hs ho h)
variable {K : Env → Heap → Prop} {i : Nat}
theorem Ej (h : K ρ H) : thenQ K Q .normal ρ H := h
theorem Ek (h : Q .ret ρ H) : thenQ K Q .ret ρ H := h
theorem El (h : Q (.exit i) ρ H) : thenQ K Q (.exit i) ρ H := h
theorem Em (h : Q .normal ρ H) : blockQ id Q .normal ρ H := h
theorem En (h : Q .ret ρ H) : blockQ id Q .ret ρ H := h
theorem Eo (h : Q .normal ρ H) : blockQ id Q (.exit id) ρ H := by simp only [blockQ, if_true]; exact h
theorem Ep (hi : (i == id) = false) (h : Q (.exit i) ρ H) : blockQ id Q (.exit i) ρ H := by
  simp only [blockQ]
  rw [if_neg (by simpa using hi)]
  exact h
variable {rs : List RV} {R : Val → Heap → Prop} {v : Val}
theorem Ae (hv : resV ρ H rs = some v) (h : R v H) : FPost rs R .ret ρ H := ⟨v, hv, h⟩
theorem Af (hv : resV ρ H rs = some v) (h : R v H) : FPost rs R .normal ρ H := ⟨v, hv, h⟩
theorem Be {c : Opd} (hb : c.ev ρ = .b true) (h : EvI P N m x ρ H Q) : EvI P N m (.cond c x y) ρ H Q := ei_cond hb (fun _ => h) (fun e => by cases e)
theorem Ce {c : Opd} (hb : c.ev ρ = .b false) (h : EvI P N m y ρ H Q) : EvI P N m (.cond c x y) ρ H Q := ei_cond hb (fun e => by cases e) (fun _ => h)
end
theorem wr_nil (c : List Val) (off : Nat) : wr c off [] = c := rfl
theorem wr_step (v : Val) (c : List Val) (off : Nat) (l : List Val) : wr (v :: c) (off + 1) l = v :: wr c off l := by
  induction l generalizing v c off with
  | nil => rfl
  | cons x l ih => simp only [wr, List.set_cons_succ]; rw [ih]
theorem wr_zero (v : Val) (c : List Val) (x : Val) (l : List Val) : wr (v :: c) 0 (x :: l) = x :: wr c 0 l := by
  simp only [wr, List.set_cons_zero, Nat.zero_add]
  exact wr_step x c 0 l
theorem lenNo_s (b : ByteArray) : Val.lenNo (.s b) = 1 := rfl
theorem lenNo_nils : Val.lenNo .nils = 2 := rfl
theorem lenNo_sl (a b c d : Nat) : Val.lenNo (.sl a b c d) = 2 := rfl
theorem lenNo_nilm : Val.lenNo .nilm = 3 := rfl
theorem lenNo_m (a : Nat) : Val.lenNo (.m a) = 3 := rfl
theorem lenOf_s (b : ByteArray) (H : Heap) : lenOf (.s b) H = some (.i .i64 b.size) := rfl
theorem lenOf_nils (H : Heap) : lenOf .nils H = some (.i .i64 0) := rfl
theorem lenOf_sl (a b c d : Nat) (H : Heap) : lenOf (.sl a b c d) H = some (.i .i64 c) := rfl
theorem lenOf_nilm (H : Heap) : lenOf .nilm H = some (.i .i64 0) := rfl
theorem nc0 : ((0 : Nat) : Int) = 0 := rfl
theorem nc1 : ((1 : Nat) : Int) = 1 := rfl
theorem nc2 : ((2 : Nat) : Int) = 2 := rfl
theorem nc3 : ((3 : Nat) : Int) = 3 := rfl
theorem mk_one (x : Val) (n : Nat) : mk [x] n = List.replicate n x := rfl
theorem decide_t {p : Prop} [Decidable p] (h : p) : decide p = true := decide_eq_true h
theorem decide_f {p : Prop} [Decidable p] (h : ¬ p) : decide p = false := decide_eq_false h

/-- What a call leaves, told by the objects `ids` alone. -/
def Told (m : Nat) (Q : Val → Heap → Prop) (v : Val) (H : Heap) : Prop :=
  ∃ (ids : List Nat) (C : Heap) (v0 : Val), ids.length = C.length ∧ ids.Nodup ∧ embAt (nm ids) H ids C ∧ wfAll C.length C ∧ m ≤ C.length ∧ ids.take m = List.range m ∧ v0.wf C.length = true ∧ v = v0.ren (nm ids) ∧ Q v0 C
theorem told {m : Nat} {Q : Val → Heap → Prop} {v : Val} {H : Heap} (ids : List Nat) (C : Heap) (v0 : Val) (h1 : ids.length = C.length) (h2 : ids.Nodup) (h3 : embAt (nm ids) H ids C) (h4 : wfAll C.length C) (h5 : m ≤ C.length) (h6 : ids.take m = List.range m)
    (h7 : v0.wf C.length = true) (h8 : v = v0.ren (nm ids)) (h9 : Q v0 C) : Told m Q v H := ⟨ids, C, v0, h1, h2, h3, h4, h5, h6, h7, h8, h9⟩

theorem nm_low {ids : List Nat} {m : Nat} (h : ids.take m = List.range m) {x : Nat} (hx : x < m) : nm ids x = x := by
  have : (ids.take m)[x]? = (List.range m)[x]? := by rw [h]
  rw [List.getElem?_take, if_pos hx, List.getElem?_range hx] at this
  simp [nm, this]

theorem PostM.told {m : Nat} {σ : Names} {H : Heap} {w : World} {Q : Val → Heap → Prop} {e : Ending} {w' : World} (h : PostM m σ H w (Told m Q) e w') : PostM m σ H w Q e w' := by
  obtain ⟨v, c, H', σ', rfl, hv, ⟨ids, C, v0, h1, h2, h3, h4, h5, h6, h7, rfl, h9⟩, hr, hs⟩ := h
  have he : Emb (nm ids) C H' := emb_of h1 h2 h3 h4
  have hb : ∀ id l, id < C.length → σ' (nm ids id) = some l → back σ' (nm ids) C.length id = some l := fun id l hi hs => by simp [back, hi, hs]
  have hbk : ∀ id l, back σ' (nm ids) C.length id = some l → id < C.length ∧ σ' (nm ids id) = some l := by
    intro id l hs
    unfold back at hs
    split at hs
    · rename_i hi; exact ⟨hi, hs⟩
    · cases hs
  have hlv : ∀ x, Live C x → Live H' (nm ids x) := by
    rintro x ⟨o, g1, g2⟩
    exact ⟨_, he.at_ x o g1, by rw [ren_live]; exact g2⟩
  have hro : ∀ x, Ro C x → Ro H' (nm ids x) := by
    rintro x ⟨o, g1, g2⟩
    exact ⟨_, he.at_ x o g1, by rw [ren_isro]; exact g2⟩
  refine ⟨v0, c, C, back σ' (nm ids) C.length, rfl, VRel.unren (ι := nm ids) (fun id l hi hs => hb id l hi hs) v0 hv h7, h9, hr.emb he, ?_⟩
  refine ⟨fun id hi => ?_, h5, hs.size, hs.keep, fun id l g1 g2 => ?_, fun id hi g2 => ?_, hs.rest, fun id l g1 g2 => ?_⟩
  · unfold back
    rw [if_pos (by omega), nm_low h6 hi]
    exact hs.ext id hi
  · exact hs.fresh _ l (hbk id l g1).2 (hlv id g2)
  · have := hlv id g2
    rw [nm_low h6 hi] at this
    exact hs.live id hi this
  · exact hs.ro _ l (hbk id l g1).2 (hro id g2)

theorem sound_told {f : FuncId} {vs : List Val} {H : Heap} {Q : Val → Heap → Prop} (h : SoundM P m f vs H (Told m Q)) : SoundM P m f vs H Q := by
  refine ⟨h.1, fun σ w cs r l => ?_⟩
  rcases h.2 σ w cs r l with ⟨g, h1, h2⟩ | ⟨c, w', h1, h2⟩
  · exact .inl ⟨g, h1, h2.mono fun e w' q => q.told⟩
  · exact .inr ⟨c, w', h1, h2.told⟩

/-- A callee's contract, over its own few objects C, at a call beside the objects of H. -/
theorem sound_use {k : Nat} {f : FuncId} {vs ws : List Val} {C H : Heap} {Q : Val → Heap → Prop} {K : Val → Heap → Prop} (h : SoundM P k f vs C Q) (ids : List Nat) (hlen : ids.length = C.length) (hnd : ids.Nodup)
    (hat : embAt (nm ids) H ids C) (hw : wfAll C.length C) (hvs : wfL C.length vs = true) (hws : ws = renL (nm ids) vs)
    (hk : ∀ v C', Q v C' → K (v.ren (after (nm ids) k H.length)) (merge ids k H C')) : SoundCall P f ws H K :=
  (sound_frame h hlen hnd (embAt_get hat) (wfAll_get hw) hvs hws).mono fun v H' ⟨v0, C', hq, hv, hH⟩ => by
    subst hv; subst hH; exact hk v0 C' hq

/-- The state ρ, H, told anew, is ρ0, C. -/
def AnewS (m : Nat) (C : Heap) (ρ0 ρ : Env) (H : Heap) : Prop :=
  ∃ ids : List Nat, ids.length = C.length ∧ ids.Nodup ∧ embAt (nm ids) H ids C ∧ wfAll C.length C ∧ m ≤ C.length ∧ ids.take m = List.range m ∧ ρ0.all (fun x => wfL C.length [x.2]) = true ∧ ∀ x ∈ ρ0, ρ.get x.1 = (ρ0.get x.1).ren (nm ids)
theorem anew {m : Nat} {C : Heap} {ρ0 ρ : Env} {H : Heap} (ids : List Nat) (h1 : ids.length = C.length) (h2 : ids.Nodup) (h3 : embAt (nm ids) H ids C) (h4 : wfAll C.length C) (h5 : m ≤ C.length) (h6 : ids.take m = List.range m)
    (h7 : ρ0.all (fun x => wfL C.length [x.2]) = true) (h8 : ∀ x ∈ ρ0, ρ.get x.1 = (ρ0.get x.1).ren (nm ids)) : AnewS m C ρ0 ρ H := ⟨ids, h1, h2, h3, h4, h5, h6, h7, h8⟩
theorem ei_anewS {C : Heap} {ρ0 : Env} {ic : ICode} {ρ : Env} {H : Heap} {Q : Exit → Env → Heap → Prop} (ha : AnewS m C ρ0 ρ H) (h : EvI P N m ic ρ0 C Q) : EvI P N m ic ρ H Q := by
  obtain ⟨ids, h1, h2, h3, h4, h5, h6, h7, h8⟩ := ha
  exact ei_anew ids C ρ0 h1 h2 h3 h4 h5 h6 h7 h8 h

theorem mn_lo {k k' : IntKind} {x y : Int} (h : x ≤ y) : mxs true (.i k x) [.i k' y] = some (.i k x) := by
  simp only [mxs, mx2, if_true]
  rw [if_neg (by omega)]
theorem mn_hi {k k' : IntKind} {x y : Int} (h : y ≤ x) : mxs true (.i k x) [.i k' y] = some (.i k y) := by
  simp only [mxs, mx2, if_true]
  split
  · rfl
  · exact congrArg (fun z => some (Val.i k z)) (by omega)
theorem mx_lo {k k' : IntKind} {x y : Int} (h : x ≤ y) : mxs false (.i k x) [.i k' y] = some (.i k y) := by
  simp only [mxs, mx2, Bool.false_eq_true, if_false]
  split
  · rfl
  · exact congrArg (fun z => some (Val.i k z)) (by omega)
theorem mx_hi {k k' : IntKind} {x y : Int} (h : y ≤ x) : mxs false (.i k x) [.i k' y] = some (.i k x) := by
  simp only [mxs, mx2, Bool.false_eq_true, if_false]
  rw [if_neg (by omega)]

/-- Short names of the steps, and of what they count with. -/
theorem OM : (∀ x : Int, -9223372036854775808 ≤ x ∧ x ≤ 9223372036854775807 → IntKind.i64.wrap x = x) ∧ (∀ x : Int, 0 ≤ x ∧ x ≤ 18446744073709551615 → IntKind.u64.wrap x = x) ∧ (∀ x : Int, 0 ≤ x ∧ x ≤ 255 → IntKind.u8.wrap x = x) ∧
    (∀ x : Int, 0 ≤ x ∧ x ≤ 65535 → IntKind.u16.wrap x = x) ∧ (∀ x : Int, 0 ≤ x ∧ x ≤ 4294967295 → IntKind.u32.wrap x = x) ∧ (∀ a b : Int, 0 ≤ a → a.tmod b = a % b) ∧ (∀ a b : Int, 0 ≤ a → a.tdiv b = a / b) :=
  ⟨fun _ h => wrap_i64 h, fun _ h => wrap_u64 h, fun _ h => wrap_u8 h, fun _ h => wrap_u16 h, fun _ h => wrap_u32 h, fun _ _ h => tmod_nn h, fun _ _ h => tdiv_nn h⟩
theorem MG : (∀ {α : Type} (a : α) (l : List α) (d : α), (a :: l).getD 0 d = a) ∧ (∀ {α : Type} (a : α) (l : List α) (d : α) (n : Nat), (a :: l).getD (n + 1) d = l.getD n d) ∧ (∀ {α : Type} (a : α) (l : List α), (a :: l).length = l.length + 1) ∧ (∀ {α : Type}, ([] : List α).length = 0) ∧
    (∀ {α : Type} (a : α) (l : List α), (a :: l)[0]? = some a) ∧ (∀ {α : Type} (a : α) (l : List α) (n : Nat), (a :: l)[n + 1]? = l[n]?) ∧ (∀ {α : Type} (a d : α), (some a).getD d = a) ∧ (∀ {α : Type} (a b : α) (l : List α), (a :: l).set 0 b = b :: l) ∧ (∀ {α : Type} (a b : α) (l : List α) (n : Nat), (a :: l).set (n + 1) b = a :: l.set n b) ∧
    (∀ {α : Type} (l : List α), l.drop 0 = l) ∧ (∀ {α : Type} (a : α) (l : List α) (n : Nat), (a :: l).drop (n + 1) = l.drop n) ∧ (∀ {α : Type} (n : Nat), ([] : List α).drop n = []) ∧ (∀ {α β : Type} (f : α → β), [].map f = []) ∧ (∀ {α β : Type} (f : α → β) (a : α) (l : List α), (a :: l).map f = f a :: l.map f) ∧
    (∀ {α : Type} (l : List α), l ++ [] = l) ∧ (∀ {α : Type} (a : α) (l m : List α), (a :: l) ++ m = a :: (l ++ m)) ∧ (∀ {α : Type} (l : List α), [] ++ l = l) ∧ (∀ n : Nat, 0 + n = n) :=
  ⟨fun _ _ _ => rfl, fun _ _ _ _ => rfl, fun _ _ => rfl, rfl, fun _ _ => rfl, fun _ _ _ => rfl, fun _ _ => rfl, fun _ _ _ => rfl, fun _ _ _ _ => rfl, fun _ => rfl, fun _ _ _ => rfl, fun _ => List.drop_nil, fun _ => rfl, fun _ _ _ => rfl, fun _ => List.append_nil _, fun _ _ _ => rfl, fun _ => rfl, Nat.zero_add⟩
/-- What is known behind the first part, told anew. -/
theorem ei_mid {x : ICode} {ρ : Env} {H : Heap} {K : Env → Heap → Prop} {Q : Exit → Env → Heap → Prop} (M : Env → Heap → Prop) (h : EvI P N m x ρ H (thenQ M Q)) (k : ∀ ρ' H', M ρ' H' → K ρ' H') : EvI P N m x ρ H (thenQ K Q) :=
  h.mono (fun e ρ' H' q => by cases e <;> first | exact k _ _ q | exact q)
/-- Of the locals only a few are asked further on. -/
theorem ei_few (ρ0 : Env) {ic : ICode} {ρ : Env} {H : Heap} {Q : Exit → Env → Heap → Prop} (hx : ∀ x ∈ ρ0, ρ.get x.1 = x.2) (h : EvI P N m ic ρ0 H Q) : EvI P N m ic ρ H Q := by
  refine EvI.weak (fun t => ?_) h
  clear h
  induction ρ0 with
  | nil => exact .inr rfl
  | cons y r ih =>
    obtain ⟨s, v⟩ := y
    simp only [Env.get]
    by_cases e : s = t
    · subst e; rw [if_pos rfl]; exact .inl (hx (s, v) (by simp)).symm
    · rw [if_neg e]; exact ih (fun x hm => hx x (by simp [hm]))
/-- A callee that looks at no object. -/
theorem sound_alone {f : FuncId} {vs : List Val} {r : Val} (h : SoundM P 0 f vs [] (fun v H' => v = r ∧ H' = [])) (hw : wfL 0 vs = true) (hv : ∀ ι, renL ι vs = vs) (hr : ∀ ι, r.ren ι = r) (H : Heap) : SoundCall P f vs H (fun v H' => v = r ∧ H' = H) :=
  sound_use h [] rfl (by decide) trivial trivial hw (hv _).symm (by
    rintro v C' ⟨rfl, rfl⟩
    exact ⟨hr _, by simp [merge, place]⟩)
end Go.Proofs.YtmdilnelogechaaDoor.Ev
/- Maps whose keys are numbers, told by the keys in the order in which they came, and by what stands at each. -/
namespace Go.Proofs.YtmdilnelogechaaDoor.Ev
open Go
def MVf (kk : IntKind) (v : Int → Val) : List Int → Nat → List (Nat × Val × Val)
  | [], _ => []
  | k :: r, n => (n, .i kk k, v k) :: MVf kk v r (n + 1)
def MV (kk : IntKind) (ks : List Int) (v : Int → Val) : List (Nat × Val × Val) := MVf kk v ks 0
def updF (v : Int → Val) (k : Int) (x : Val) : Int → Val := fun y => if y = k then x else v y

section
variable {e : Opd → Val} {H : Heap} {id ck : Nat} {kk : IntKind} {ks : List Int} {v : Int → Val} {m k x : Opd} {n : Int}
end
/-- How many are not seen yet. -/
def unseen (n : Nat) (seen : List Nat) : Nat := ((List.range n).filter fun j => !seen.contains j).length
theorem rn_rw (ι : Nat → Nat) (c : List Val) : (AObj.rw c).ren ι = .rw (renL ι c) := rfl
theorem rn_ro (ι : Nat → Nat) (c : List Val) : (AObj.ro c).ren ι = .ro (renL ι c) := rfl
theorem rn_map (ι : Nat → Nat) (es : List (Nat × Val × Val)) (ck : Nat) : (AObj.map es ck).ren ι = .map (es.map fun x => (x.1, x.2.1.ren ι, x.2.2.ren ι)) ck := rfl
theorem rn_iter (ι : Nat → Nat) (a b d : Nat) (c : List Nat) : (AObj.iter a b c d).ren ι = .iter (ι a) b c d := rfl
theorem rn_dead (ι : Nat → Nat) : AObj.dead.ren ι = .dead := rfl
theorem wn_rw (m : Nat) (c : List Val) : (AObj.rw c).wf m = wfL m c := rfl
theorem wn_ro (m : Nat) (c : List Val) : (AObj.ro c).wf m = wfL m c := rfl
theorem wn_map (m : Nat) (es : List (Nat × Val × Val)) (ck : Nat) : (AObj.map es ck).wf m = es.all fun x => x.2.1.wf m && x.2.2.wf m := rfl
theorem wn_iter (m a b d : Nat) (c : List Nat) : (AObj.iter a b c d).wf m = decide (a < m) := rfl
theorem wn_dead (m : Nat) : AObj.dead.wf m = true := rfl

/-- A drawn region, step by step, with what was read kept in view. -/
structure RunD (P : Program) (pre : Nat → Nat → Bool) (its : List RItem) (ord : List Nat) (wt : Watch) (ρ : Env) (H : Heap) (K : Env → Heap → Prop) : Prop where
  out : EvD P pre its ord wt ρ H K
section
variable {P : Program} {N m : Nat} {pre : Nat → Nat → Bool} {its : List RItem} {r ms ord : List Nat} {wt : Watch} {ρ : Env} {H H' : Heap} {K : Env → Heap → Prop} {i d t : Nat} {io : IOp} {v : Val} {b : Bool} {g : FuncId} {f : Opd} {xs : List Opd} {va vb vs : List Val}
theorem RunD.nil (h : K ρ H) : RunD P pre its [] wt ρ H K := ⟨h⟩
theorem RunD.op0 (hi : its[i]? = some (.op (some d) none io)) (h0 : io.sort = 0) (h : io.step (Opd.ev ρ) H = some (v, H')) (k : RunD P pre its r wt ((d, v) :: ρ) H' K) : RunD P pre its (i :: r) wt ρ H K :=
  ⟨by simp only [EvD, hi, RItem.g, guardOk, h, h0, putv]; simpa using k.out⟩
theorem RunD.op1 (hi : its[i]? = some (.op (some d) none io)) (h0 : io.sort = 1) (h : io.step (Opd.ev ρ) H = some (v, H')) (k : RunD P pre its r ((i, fun K' => io.step (Opd.ev ρ) K' = some (v, K')) :: wt) ((d, v) :: ρ) H' K) : RunD P pre its (i :: r) wt ρ H K :=
  ⟨by simp only [EvD, hi, RItem.g, guardOk, h, h0, putv]; simpa using k.out⟩
theorem RunD.call (hi : its[i]? = some (.call (some d) none f xs)) (hf : f.ev ρ = .fn (.func g) va vb) (hv : va ++ xs.map (Opd.ev ρ) ++ vb = vs) (k : SoundCall P g vs H (fun v H' => recheck pre wt i H' ∧ RunD P pre its r wt ((d, v) :: ρ) H' K)) : RunD P pre its (i :: r) wt ρ H K :=
  ⟨by simp only [EvD, hi, RItem.g, guardOk, EvItem, putv, hf, hv]; exact k.mono fun v H' q => ⟨q.1, q.2.out⟩⟩
theorem recheck_nil {H : Heap} : recheck pre [] i H := fun x hx => by simp at hx
theorem recheck_cons {x : Nat × (Heap → Prop)} {H : Heap} (h : pre x.1 i = true ∨ x.2 H) (h' : recheck pre wt i H) : recheck pre (x :: wt) i H := fun y hy => by
  rcases List.mem_cons.1 hy with rfl | hy
  · exact h
  · exact h' y hy
theorem ei_dregD {Q : Exit → Env → Heap → Prop} (h : RunD P (preOf ms) its ord [] ρ H (fun ρ' H' => Q .normal ρ' H')) : EvI P N m (.dreg its ord ms) ρ H Q := ei_dreg h.out
end
section
variable {P : Program}
/-- Objects that stand for nothing may be told, too. -/
theorem PostM.more {m : Nat} {σ : Names} {H : Heap} {w : World} {Q R : Val → Heap → Prop} {e : Ending} {w' : World} (h : PostM m σ H w Q e w') (hq : ∀ v H', Q v H' → R v (H' ++ [.dead])) : PostM m σ H w R e w' := by
  obtain ⟨v, c, H', σ', rfl, hv, hQ, hr, hs⟩ := h
  refine ⟨v, c, _, σ', rfl, hv, hq v H' hQ, hr.grow _, ⟨hs.ext, by have := hs.len; simp; omega, hs.size, hs.keep, ?_, ?_, hs.rest, ?_⟩⟩
  all_goals
    have back : ∀ x, x < H'.length → (H' ++ [AObj.dead])[x]? = H'[x]? := fun x h => List.getElem?_append_left h
  · rintro id l h2 ⟨q, a, b⟩
    exact hs.fresh id l h2 ⟨q, by rw [← back id (hr.dom id l h2)]; exact a, b⟩
  · rintro id h1 ⟨q, a, b⟩
    exact hs.live id h1 ⟨q, by rw [← back id (Nat.lt_of_lt_of_le h1 hs.len)]; exact a, b⟩
  · rintro id l h2 ⟨q, a, b⟩
    exact hs.ro id l h2 ⟨q, by rw [← back id (hr.dom id l h2)]; exact a, b⟩
theorem SoundM.more {m : Nat} {f : FuncId} {vs : List Val} {H : Heap} {Q R : Val → Heap → Prop} (h : SoundM P m f vs H Q) (hq : ∀ v H', Q v H' → R v (H' ++ [.dead])) : SoundM P m f vs H R := by
  refine ⟨h.1, fun σ w cs r l => ?_⟩
  rcases h.2 σ w cs r l with ⟨g, h1, h2⟩ | ⟨c, w', h1, h2⟩
  · exact .inl ⟨g, h1, h2.mono fun e w' q => q.more hq⟩
  · exact .inr ⟨c, w', h1, h2.more hq⟩
end
end Go.Proofs.YtmdilnelogechaaDoor.Ev
/- This text of a proof shows: slices that grow from nil, told by one form; an object that is dead may be added. -/
namespace Go.Proofs.YtmdilnelogechaaDoor.Ev
open Go
variable {P : Program} {N m : Nat}
theorem pad_get {H : Heap} {x : Nat} {o : AObj} (h : (H ++ [AObj.dead])[x]? = some o) (hn : o ≠ .dead) : H[x]? = some o := by
  rcases Nat.lt_or_ge x H.length with hx | hx
  · rwa [List.getElem?_append_left hx] at h
  · rw [List.getElem?_append_right hx] at h
    have : x - H.length = 0 := by
      rcases Nat.eq_zero_or_pos (x - H.length) with h0 | h0
      · exact h0
      · rw [List.getElem?_eq_none (by simp; omega)] at h; cases h
    rw [this] at h
    simp at h
    exact absurd h.symm hn
theorem pad_live {H : Heap} {x : Nat} : Live (H ++ [AObj.dead]) x ↔ Live H x := by
  constructor
  · rintro ⟨o, h1, h2⟩; exact ⟨o, pad_get h1 (by rintro rfl; cases h2), h2⟩
  · rintro ⟨o, h1, h2⟩; exact ⟨o, by rw [List.getElem?_append_left (List.getElem?_eq_some_iff.1 h1).1]; exact h1, h2⟩
theorem pad_ro {H : Heap} {x : Nat} : Ro (H ++ [AObj.dead]) x ↔ Ro H x := by
  constructor
  · rintro ⟨o, h1, h2⟩; exact ⟨o, pad_get h1 (by rintro rfl; cases h2), h2⟩
  · rintro ⟨o, h1, h2⟩; exact ⟨o, by rw [List.getElem?_append_left (List.getElem?_eq_some_iff.1 h1).1]; exact h1, h2⟩
theorem Rel.pad {σ : Names} {H : Heap} {w : World} (r : Rel σ H w) : Rel σ (H ++ [.dead]) w := by
  refine ⟨⟨fun id l hs => by have := r.dom id l hs; simp; omega, fun id l o hs ho => ?_, r.blk, fun x y lx ly hx hy h1 h2 h3 => ?_⟩, fun x hx => ?_⟩
  · by_cases hd : o = .dead
    · subst hd; trivial
    · exact r.obj id l o hs (pad_get ho hd)
  · exact r.inj x y lx ly hx hy (pad_live.1 h1) (h2.imp pad_live.1 pad_ro.1) h3
  · obtain ⟨h1, h2, h3⟩ := r.fix x hx
    exact ⟨h1, h2, fun id l hs hl => h3 id l hs (pad_live.1 hl)⟩
/-- A slice that is nil (none), or stands between other cells. -/
abbrev GO := Option (List Val × List Val)
def gV : GO → Nat → Nat → Nat → Val
  | none, _, _, _ => .nils
  | some (j, _), id, n, sz => .sl id j.length n sz
def gO : GO → List Val → AObj
  | none, _ => .dead
  | some (j, k), c => .rw (j ++ (c ++ k))
def gNew : GO := some ([], [])
theorem gNew_ne : gNew ≠ none := by simp [gNew]
theorem gV_new (id n sz : Nat) : gV gNew id n sz = .sl id 0 n sz := rfl
theorem gO_new (c : List Val) : gO gNew c = .rw c := by simp [gO, gNew]
/-- What stands beside names no object. -/
def gC : GO → Prop
  | none => True
  | some (j, k) => (∀ ι, renL ι j = j) ∧ (∀ m, wfL m j = true) ∧ (∀ ι, renL ι k = k) ∧ ∀ m, wfL m k = true
theorem gV_no (o : GO) (id n sz : Nat) : Val.lenNo (gV o id n sz) = 2 := by rcases o with _ | ⟨j, k⟩ <;> rfl
theorem gV_len {o : GO} {n : Nat} (h : o = none → n = 0) (id sz : Nat) (H : Heap) : lenOf (gV o id n sz) H = some (.i .i64 (n : Nat)) := by
  rcases o with _ | ⟨j, k⟩
  · rw [h rfl]; rfl
  · rfl
theorem set_get_self {α : Type} {l : List α} {i : Nat} {x : α} (h : l[i]? = some x) : l.set i x = l := by
  apply List.ext_getElem?
  intro j
  by_cases e : i = j
  · subst e; rw [List.getElem?_set_self (List.getElem?_eq_some_iff.1 h).1, h]
  · rw [List.getElem?_set_ne e]
/-- One value is appended. -/
theorem gApp {e : Opd → Val} {H : Heap} {x y : Opd} {o : GO} {c new : List Val} {id n sz bytes j : Nat} (hx : e x = gV o id n sz) (hH : H[id]? = some (gO o c)) (hc : c.length = n * sz) (hn : o = none → n = 0)
    (hy : e y = .sl j 0 1 sz) (hj : H[j]? = some (.rw new)) (hl : new.length = sz) (hb : (n + 1) * bytes ≤ 140737488355328) :
    (IOp.app sz bytes x y).step e H = some (gV gNew H.length (n + 1) sz, H.set id .dead ++ [gO gNew (c ++ new)]) := by
  have hw : window H (.sl j 0 1 sz) sz = some new := by
    simp only [window, if_true, hj]
    rw [if_pos (by omega), List.drop_zero, Nat.one_mul, List.take_of_length_le (by omega)]
  simp only [IOp.step, hx, hy, hw]
  rcases o with _ | ⟨a, b⟩
  · obtain rfl := hn rfl
    have hc' : c = [] := List.length_eq_zero_iff.1 (by omega)
    subst hc'
    have hw1 : window H (gV none id 0 sz) sz = some [] := rfl
    rw [hw1]
    dsimp only
    rw [if_pos (show ((gV none id 0 sz).slen + (Val.sl j 0 1 sz).slen) * bytes ≤ 140737488355328 from hb)]
    rw [set_get_self (show H[id]? = some AObj.dead from hH)]
    simp [gV, gO, gNew, Val.slen]
  · have hw2 : window H (gV (some (a, b)) id n sz) sz = some c := by
      simp only [gV, window, if_true, hH, gO]
      rw [if_pos (by simp [hc])]
      simp [← hc]
    rw [hw2]
    dsimp only
    rw [if_pos (show ((gV (some (a, b)) id n sz).slen + (Val.sl j 0 1 sz).slen) * bytes ≤ 140737488355328 from hb)]
    simp only [gV, hH, gO, gNew, Val.slen]
    simp
/-- What is known behind a block's part, told anew. -/
theorem ei_midB {id : Nat} {x : ICode} {ρ : Env} {H : Heap} {K : Env → Heap → Prop} {Q : Exit → Env → Heap → Prop} (M : Env → Heap → Prop) (h : EvI P N m x ρ H (blockQ id (thenQ M Q))) (k : ∀ ρ' H', M ρ' H' → K ρ' H') : EvI P N m x ρ H (blockQ id (thenQ K Q)) :=
  h.mono (fun e ρ' H' q => by
    cases e with
    | exit i =>
      simp only [blockQ] at q ⊢
      split
      · rename_i hi; rw [if_pos hi] at q; exact k _ _ q
      · rename_i hi; rw [if_neg hi] at q; exact q
    | normal => exact k _ _ q
    | _ => exact q)
end Go.Proofs.YtmdilnelogechaaDoor.Ev
/- Loops over functions: what yield does, and the statement. -/
namespace Go.Proofs.YtmdilnelogechaaDoor.Ev
open Go
variable {P : Program} {N m : Nat}

/-- yield's arguments laid. -/
def bindEnv : List Nat → List Val → Env → Env
  | p :: ps, v :: vs, ρ => bindEnv ps vs ((p, v) :: ρ)
  | _, _, ρ => ρ

/-- How a round ends. -/
def roundQ (id N : Nat) (ρ : Env) (ps : List Nat) (asg body : Code) (K : Val → Heap → Prop) : Exit → Env → Heap → Prop
  | .normal, _, H => H[id]? = some (.loop .busy none N ρ ps asg body) ∧ K (.b true) (H.set id (.loop .ready none N ρ ps asg body))
  | .ret, _, H => H[id]? = some (.loop .busy none N ρ ps asg body) ∧ K (.b false) (H.set id (.loop .done (some .ret) N ρ ps asg body))
  | .exit i, _, H => H[id]? = some (.loop .busy none N ρ ps asg body) ∧ K (.b false) (H.set id (.loop .done (some (.exit i)) N ρ ps asg body))
  | _, _, _ => False

def loopQ (L N : Nat) (ps : List Nat) (asg body : Code) (ρ : Env) (Q : Exit → Env → Heap → Prop) : Val → Heap → Prop := fun _ H1 =>
  ∃ st pd ρr, H1[L]? = some (.loop st pd N ρr ps asg body) ∧ st ≠ .busy ∧
    match pd with
    | none => Q .normal ρ (H1.set L .dead)
    | some .ret => Q .ret ρ (H1.set L .dead)
    | some (.exit i) => Q (.exit i) ρ (H1.set L .dead)
    | _ => False

end Go.Proofs.YtmdilnelogechaaDoor.Ev
/- Loops over functions, for runs told step by step. -/
namespace Go.Proofs.YtmdilnelogechaaDoor.Ev
open Go
variable {P : Program} {N m : Nat}
theorem Run.yld {r : List RItem} {ρ : Env} {H : Heap} {K : Env → Heap → Prop} {d id : Nat} {f : Opd} {xs : List Opd} {vs : List Val} (hf : f.ev ρ = .yld id) (hv : xs.map (Opd.ev ρ) = vs)
    (k : YieldM P id vs H (fun v H' => Run P r ((d, v) :: ρ) H' K)) : Run P (.call (some d) none f xs :: r) ρ H K :=
  ⟨by simp only [EvItems, guardOk, EvItem, RItem.g, RItem.d, putv, hf, hv]; exact YieldM.mono k fun v H' q => q.out⟩
theorem loopQ.mk {L : Nat} {ps : List Nat} {asg body : Code} {ρ : Env} {Q : Exit → Env → Heap → Prop} {v : Val} {H1 : Heap} {st : LoopState} {ρr : Env} (h : H1[L]? = some (.loop st none N ρr ps asg body)) (hs : st ≠ .busy) (hq : Q .normal ρ (H1.set L .dead)) :
    loopQ L N ps asg body ρ Q v H1 := ⟨_, _, _, h, hs, hq⟩
end Go.Proofs.YtmdilnelogechaaDoor.Ev
