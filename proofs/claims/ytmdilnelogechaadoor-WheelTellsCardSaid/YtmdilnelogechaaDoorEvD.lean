/- This text of the evaluator proves: a region whose order is drawn answers as in any order. No condition. -/
import Derived.Test.YtmdilnelogechaaDoorEvC
import Derived.OrdersIn
set_option linter.unusedVariables false
set_option linter.unusedSimpArgs false
set_option linter.constructorNameAsVariable false
/- A region whose order is drawn: one order is walked, what was read ahead of a change is looked at again behind it; every other order comes to the same. -/
namespace Go.Proofs.YtmdilnelogechaaDoor.Ev
open Go
variable {Df : List Deferred} {ro : Option Nat}

theorem app_old {H : Heap} {id : Nat} {x o : AObj} (h : H[id]? = some x) : (H ++ [o])[id]? = some x := by
  have hid : id < H.length := by
    rcases Nat.lt_or_ge id H.length with h' | h'
    · exact h'
    · rw [List.getElem?_eq_none h'] at h; cases h
  rw [List.getElem?_append_left hid]; exact h

theorem Rel.grow {σ : Names} {H : Heap} {w : World} (r : Rel σ H w) (o : AObj) : Rel σ (H ++ [o]) w := by
  have back : ∀ x l, σ x = some l → (H ++ [o])[x]? = H[x]? := fun x l h => List.getElem?_append_left (r.dom x l h)
  refine ⟨⟨fun id l h => by have := r.dom id l h; simp; omega, fun id l x h hx => r.obj id l x h (by rw [← back id l h]; exact hx), r.blk, ?_⟩, fun x hx => ?_⟩
  case refine_2 =>
    obtain ⟨h1, h2, h3⟩ := r.fix x hx
    exact ⟨h1, h2, fun id l hs hl => h3 id l hs (by obtain ⟨q, a, b⟩ := hl; exact ⟨q, by rw [← back id l hs]; exact a, b⟩)⟩
  intro x y lx ly hx hy h1 h2 h3
  refine r.inj x y lx ly hx hy ?_ ?_ h3
  · obtain ⟨q, a, b⟩ := h1; exact ⟨q, by rw [← back x lx hx]; exact a, b⟩
  · rcases h2 with ⟨q, a, b⟩ | ⟨q, a, b⟩
    · exact .inl ⟨q, by rw [← back y ly hy]; exact a, b⟩
    · exact .inr ⟨q, by rw [← back y ly hy]; exact a, b⟩

theorem StepM.grow {σ0 σ : Names} {H0 H : Heap} {w0 w : World} (s : Step σ0 H0 w0 σ H w) (r : Rel σ H w) (o : AObj) : Step σ0 H0 w0 σ (H ++ [o]) w := by
  have back : ∀ x, x < H.length → (H ++ [o])[x]? = H[x]? := fun x h => List.getElem?_append_left h
  refine ⟨s.ext, by have := s.len; simp; omega, s.size, s.keep, ?_, ?_, s.rest, ?_⟩
  · rintro id l h2 ⟨q, a, b⟩
    exact s.fresh id l h2 ⟨q, by rw [← back id (r.dom id l h2)]; exact a, b⟩
  · rintro id h1 ⟨q, a, b⟩
    exact s.live id h1 ⟨q, by rw [← back id (Nat.lt_of_lt_of_le h1 s.len)]; exact a, b⟩
  · rintro id l h2 ⟨q, a, b⟩
    exact s.ro id l h2 ⟨q, by rw [← back id (r.dom id l h2)]; exact a, b⟩

theorem Rel.map {σ : Names} {H : Heap} {w : World} (r : Rel σ H w) {n : Nat} (hn : σ n = none) {l : List Val} (ho : H[n]? = some (.rw l)) {cs : Array Value} {e : TypeId} (hlen : l.length ≤ cs.size)
    (hr : ∀ (j : Nat) (v : Val) (x : Value), l[j]? = some v → cs[j]? = some x → VRel σ v x) (h1c : ∀ (j : Nat) (x : Value), j < l.length → cs[j]? = some x → x.oneCell' = true) {w' : World} (hw : w'.heap = w.heap.push (.cells cs e (0, 0))) :
    Rel (σ.add n ⟨w.heap.size, 0, cs.size⟩) H w' := by
  have hle : σ.le (σ.add n ⟨w.heap.size, 0, cs.size⟩) := Names.le_add hn
  have hold : ∀ bl, bl < w.heap.size → w'.heap[bl]? = w.heap[bl]? := by
    intro bl hb
    rw [hw]; simp [Array.getElem?_push, Nat.ne_of_lt hb]
  have hnew : w'.heap[w.heap.size]? = some (.cells cs e (0, 0)) := by rw [hw]; simp
  have hsz : w'.heap.size = w.heap.size + 1 := by rw [hw]; simp
  have hnl : n < H.length := by
    rcases Nat.lt_or_ge n H.length with h' | h'
    · exact h'
    · rw [List.getElem?_eq_none h'] at ho; cases ho
  refine ⟨⟨?_, ?_, ?_, ?_⟩, fun x hx => ?_⟩
  case refine_5 =>
    obtain ⟨h1, h2, h3⟩ := r.fix x hx
    refine ⟨by omega, fun j v hj => by rw [cell_congr (hold x.1 h1)]; exact h2 j v hj, fun id l hs hl => ?_⟩
    by_cases hi : id = n
    · subst hi; rw [Names.add_same] at hs; cases hs; exact fun e => by simp at e; omega
    · rw [Names.add_ne hi] at hs; exact h3 id l hs hl
  · intro id lo hs
    by_cases hi : id = n
    · subst hi; exact hnl
    · rw [Names.add_ne hi] at hs; exact r.dom id lo hs
  · intro id lo o hs ho'
    by_cases hi : id = n
    · subst hi
      rw [Names.add_same] at hs; cases hs
      rw [ho] at ho'; cases ho'
      refine ⟨⟨by simpa using hlen, fun j v hj => ?_⟩, fun o ho => ?_⟩
      · have hjl : j < l.length := by
          rcases Nat.lt_or_ge j l.length with h | h
          · exact h
          · simp [List.getElem?_eq_none h] at hj
        have hx : cs[j]? = some (cs[j]'(by omega)) := Array.getElem?_eq_getElem _
        refine ⟨cs[j]'(by omega), ?_, (hr j v _ hj hx).mono hle, h1c j _ hjl hx⟩
        simp [World.cell?, hnew, hx]
      · refine ⟨⟨cs[o]'ho, ?_⟩, ?_⟩
        · simp only [World.cell?, hnew]; simp [ho]
        · simp [World.frozen?, hnew]
    · rw [Names.add_ne hi] at hs
      exact ((r.obj id lo o hs ho').congr (hold _ (r.blk id lo hs))).mono hle
  · intro id lo hs
    rw [hsz]
    by_cases hi : id = n
    · subst hi; rw [Names.add_same] at hs; cases hs; simp
    · rw [Names.add_ne hi] at hs
      have := r.blk id lo hs
      omega
  · intro x y lx ly hx hy hlx hly hb
    by_cases hx1 : x = n
    · by_cases hy1 : y = n
      · omega
      · rw [Names.add_ne hy1] at hy
        subst hx1
        rw [Names.add_same] at hx; cases hx
        have := r.blk y ly hy
        simp at hb; omega
    · rw [Names.add_ne hx1] at hx
      by_cases hy1 : y = n
      · subst hy1
        rw [Names.add_same] at hy; cases hy
        have := r.blk x lx hx
        simp at hb; omega
      · rw [Names.add_ne hy1] at hy
        exact r.inj x y lx ly hx hy hlx hly hb

theorem StepM.map {σ0 σ : Names} {H0 H : Heap} {w0 w : World} (s : Step σ0 H0 w0 σ H w) {n : Nat} (hn : H0.length ≤ n) {lv : List Val} (ho : H[n]? = some (.rw lv)) {cs : Array Value} {e : TypeId} {w' : World} (hw : w'.heap = w.heap.push (.cells cs e (0, 0))) (hrest : w'.os = w.os ∧ w'.tape = w.tape ∧ w'.output = w.output) :
    Step σ0 H0 w0 (σ.add n ⟨w.heap.size, 0, cs.size⟩) H w' := by
  refine ⟨fun id h => by rw [Names.add_ne (by omega)]; exact s.ext id h, s.len, by have := s.size; rw [hw]; simp; omega, fun bl hb hk => ?_, fun id l h2 h3 => ?_, s.live, ⟨hrest.1.trans s.rest.1, hrest.2.1.trans s.rest.2.1, hrest.2.2.trans s.rest.2.2⟩, fun id l h2 h3 => ?_⟩
  · rw [← s.keep bl hb hk]
    have := s.size
    rw [hw]; simp [Array.getElem?_push, Nat.ne_of_lt (show bl < w.heap.size by omega)]
  · by_cases hi : id = n
    · subst hi; rw [Names.add_same] at h2; cases h2; exact .inl s.size
    · rw [Names.add_ne hi] at h2; exact s.fresh id l h2 h3
  · by_cases hi : id = n
    · subst hi
      obtain ⟨o, h4, h5⟩ := h3
      rw [ho] at h4; cases h4; simp [AObj.isro] at h5
    · rw [Names.add_ne hi] at h2; exact s.ro id l h2 h3

def RItem.eff : RItem → Bool
  | .op _ _ io => io.sort = 3
  | .call _ _ _ _ => true
  | .any _ _ _ => true

def tmpsOf : List Opd → List Nat
  | [] => []
  | .t n :: r => n :: tmpsOf r
  | .c _ :: r => tmpsOf r

def RItem.reads (it : RItem) : List Nat := tmpsOf it.opds ++ (match it.g with
  | some (t, _) => [t]
  | none => [])

theorem mem_tmpsOf {n : Nat} : ∀ {l : List Opd}, .t n ∈ l → n ∈ tmpsOf l
  | [], h => by cases h
  | .t m :: r, h => by
    simp at h
    rcases h with rfl | h
    · simp [tmpsOf]
    · simp [tmpsOf, mem_tmpsOf h]
  | .c v :: r, h => by simp at h; simp [tmpsOf, mem_tmpsOf h]

/-- What was read, or made, and is to stand as it was behind what comes later. -/
abbrev Watch := List (Nat × (Heap → Prop))

def recheck (pre : Nat → Nat → Bool) (wt : Watch) (i : Nat) (H : Heap) : Prop := ∀ x ∈ wt, pre x.1 i = true ∨ x.2 H

def EvD (P : Program) (pre : Nat → Nat → Bool) (its : List RItem) : List Nat → Watch → Env → Heap → (Env → Heap → Prop) → Prop
  | [], _, ρ, H, K => K ρ H
  | i :: r, wt, ρ, H, K => match its[i]? with
    | none => False
    | some it => match guardOk it.g ρ with
      | none => False
      | some false => EvD P pre its r wt (putv it.d skipV ρ) H K
      | some true => match it with
        | .call d g f xs => EvItem P (.call d g f xs) (Opd.ev ρ) H (fun v H' => recheck pre wt i H' ∧ EvD P pre its r wt (putv d v ρ) H' K)
        | .any d g no => EvItem P (.any d g no) (Opd.ev ρ) H (fun v H' => recheck pre wt i H' ∧ EvD P pre its r wt (putv d v ρ) H' K)
        | .op d _ io => match io.step (Opd.ev ρ) H with
          | none => False
          | some (v, H') =>
            if io.sort = 3 then recheck pre wt i H' ∧ EvD P pre its r wt (putv d v ρ) H' K
            else if io.sort = 2 then EvD P pre its r ((i, fun K' => K'[H.length]? = H'[H.length]?) :: wt) (putv d v ρ) H' K
            else if io.sort = 1 then EvD P pre its r ((i, fun K' => io.step (Opd.ev ρ) K' = some (v, K')) :: wt) (putv d v ρ) H' K
            else EvD P pre its r wt (putv d v ρ) H' K

def Closed (ops : Array Oper) (S : Nat → Prop) : Prop := ∀ j o, S j → ops[j]? = some o → ∀ e ∈ o.after, Region.binds .any e = true → S e.on

structure DStat (P : Program) (N : Nat) (ops : Array Oper) (its : List RItem) (ord : List Nat) (pre : Nat → Nat → Bool) : Prop where
  comp : ∀ (i : Nat) (o : Oper), ops[i]? = some o → ∃ it, its[i]? = some it ∧ compR P N ops o = some it
  item : ∀ (i : Nat) (it : RItem), its[i]? = some it → i < ops.size
  al : ∀ (i : Nat) (o : Oper) (d : Option Nat) (g : Option (Nat × Bool)) (io : IOp), ops[i]? = some o → its[i]? = some (.op d g io) → io.sort = 2 → isAl o = true
  nodup : ord.Nodup
  all : ∀ i, i < ops.size → i ∈ ord
  lt : ∀ i ∈ ord, i < ops.size
  sound : ∀ i j, pre i j = true → ∀ S : Nat → Prop, Closed ops S → S j → S i
  eager : ∀ (a b : List Nat) (x : Nat) (it : RItem), ord = a ++ x :: b → its[x]? = some it → it.eff = true → ∀ y ∈ b, pre x y = true
  order : ∀ (a b : List Nat) (x : Nat), ord = a ++ x :: b → ∀ y ∈ b, pre y x = false
  reads : ∀ (i j : Nat) (it jt : RItem) (d : Nat), i ≠ j → its[i]? = some it → its[j]? = some jt → jt.d = some d → d ∈ it.reads → pre i j = true ∨ pre j i = true
  dsts : ∀ (i j : Nat) (it jt : RItem) (d : Nat), its[i]? = some it → its[j]? = some jt → it.d = some d → jt.d = some d → i = j
  back : ∀ (i : Nat) (o : Oper) (e : Edge), ops[i]? = some o → e ∈ o.after → Region.binds .any e = true → e.on < i

section
open Classical
/-- The value of a slot when the operations of D have been. -/
noncomputable def envD (its : List RItem) (D : Nat → Prop) (V : Nat → Val) (ρ0 : Env) (t : Nat) : Val :=
  if h : ∃ j, D j ∧ ∃ it, its[j]? = some it ∧ it.d = some t then V (Classical.choose h) else ρ0.get t

theorem envD_in {P : Program} {N : Nat} {ops : Array Oper} {its : List RItem} {ord : List Nat} {pre : Nat → Nat → Bool} (D0 : DStat P N ops its ord pre) {D : Nat → Prop} {V : Nat → Val} {ρ0 : Env} {t j : Nat} {it : RItem}
    (hj : D j) (hi : its[j]? = some it) (hd : it.d = some t) : envD its D V ρ0 t = V j := by
  have h : ∃ j, D j ∧ ∃ it, its[j]? = some it ∧ it.d = some t := ⟨j, hj, it, hi, hd⟩
  unfold envD
  rw [dif_pos h]
  obtain ⟨_, jt, h2, h3⟩ := Classical.choose_spec h
  rw [D0.dsts _ _ _ _ _ h2 hi h3 hd]
theorem envD_out {its : List RItem} {D : Nat → Prop} {V : Nat → Val} {ρ0 : Env} {t : Nat} (h : ∀ j it, D j → its[j]? = some it → it.d ≠ some t) : envD its D V ρ0 t = ρ0.get t := by
  unfold envD
  rw [dif_neg]
  rintro ⟨j, hj, it, hi, hd⟩
  exact h j it hj hi hd

noncomputable def evD (its : List RItem) (D : Nat → Prop) (V : Nat → Val) (ρ0 : Env) : Opd → Val
  | .t n => envD its D V ρ0 n
  | .c v => v

/-- One more operation: its own slot has its value, every other one what it had. -/
theorem envD_more {P : Program} {N : Nat} {ops : Array Oper} {its : List RItem} {ord : List Nat} {pre : Nat → Nat → Bool} (D0 : DStat P N ops its ord pre) {D : Nat → Prop} {V : Nat → Val} {ρ0 : Env} {i : Nat} {it : RItem}
    (hi : its[i]? = some it) (t : Nat) : envD its (fun j => D j ∨ j = i) V ρ0 t = if it.d = some t then V i else envD its D V ρ0 t := by
  split
  · rename_i hd
    exact envD_in D0 (.inr rfl) hi hd
  · rename_i hd
    by_cases h : ∃ j, D j ∧ ∃ it, its[j]? = some it ∧ it.d = some t
    · obtain ⟨j, h1, jt, h2, h3⟩ := h
      rw [envD_in D0 (.inl h1) h2 h3, envD_in D0 h1 h2 h3]
    · rw [envD_out (t := t), envD_out (t := t)]
      · intro j jt h1 h2 h3; exact h ⟨j, h1, jt, h2, h3⟩
      · rintro j jt (h1 | rfl) h2 h3
        · exact h ⟨j, h1, jt, h2, h3⟩
        · rw [hi] at h2; cases h2; exact hd h3

/-- What stands of an operation that the walked order has done and the drawn one has not. -/
def Pend (wt : Watch) (A : Nat → Nat) (i : Nat) (it : RItem) (ρ : Env) (v : Val) (σ : Names) (H0 H : Heap) : Prop :=
  (guardOk it.g ρ = some false ∧ v = skipV) ∨
  (guardOk it.g ρ = some true ∧ ∃ d g io, it = .op d g io ∧
    ((io.sort = 0 ∧ io.step (Opd.ev ρ) H = some (v, H)) ∨
     (io.sort = 1 ∧ io.step (Opd.ev ρ) H = some (v, H) ∧ ∃ x ∈ wt, x.1 = i ∧ ∀ K', x.2 K' → io.step (Opd.ev ρ) K' = some (v, K')) ∨
     (io.sort = 2 ∧ ∃ f l, io.fresh (Opd.ev ρ) = some (f, l) ∧ v = f (A i) ∧ H[A i]? = some (.rw l) ∧ σ (A i) = none ∧ H0.length ≤ A i ∧ ∃ x ∈ wt, x.1 = i ∧ ∀ K', x.2 K' → K'[A i]? = some (.rw l))))

structure DInv (P : Program) (N : Nat) (Df : List Deferred) (ops : Array Oper) (its : List RItem) (ord : List Nat) (pre : Nat → Nat → Bool) (K : Env → Heap → Prop)
    (ρ0 : Env) (σ0 : Names) (H0 : Heap) (w0 : World) (S : Nat → Prop) (done rem : List Nat) (wt : Watch) (ρ : Env) (H : Heap) (V : Nat → Val) (A : Nat → Nat) (σ : Names) (a : Act) (w : World) : Prop where
  split : ord = done ++ rem
  sub : ∀ i, S i → i ∈ done
  effs : ∀ i it, i ∈ done → its[i]? = some it → it.eff = true → S i
  go : EvD P pre its rem wt ρ H K
  env : ∀ t, ρ.get t = envD its (· ∈ done) V ρ0 t
  rel : Rel σ H w
  step : Step σ0 H0 w0 σ H w
  size : a.tmps.size = N
  defers : a.defers = Df
  vals : ∀ t, VRel σ (envD its S V ρ0 t) (a.tmps.getD t undef)
  pend : ∀ i, i ∈ done → ¬ S i → ∃ it ρi d1 d2, its[i]? = some it ∧ done = d1 ++ i :: d2 ∧ (∀ t, ρi.get t = envD its (· ∈ d1) V ρ0 t) ∧ Pend wt A i it ρi (V i) σ H0 H
  apart : ∀ i j, i ∈ done → j ∈ done → ¬ S i → ¬ S j → A i = A j → V i ≠ skipV → V j ≠ skipV → (∃ d g io, its[i]? = some (.op d g io) ∧ io.sort = 2) → (∃ d g io, its[j]? = some (.op d g io) ∧ io.sort = 2) → i = j

theorem envD_congr {its : List RItem} {D : Nat → Prop} {V V' : Nat → Val} {ρ0 : Env} (h : ∀ j, D j → V j = V' j) (t : Nat) : envD its D V ρ0 t = envD its D V' ρ0 t := by
  unfold envD
  split
  · rename_i hx
    exact h _ (Classical.choose_spec hx).1
  · rfl

/-- What an operation sees: in the walked order, and in any other. -/
theorem seen {P : Program} {N : Nat} {ops : Array Oper} {its : List RItem} {ord : List Nat} {pre : Nat → Nat → Bool} (D0 : DStat P N ops its ord pre) {V : Nat → Val} {ρ0 : Env} {S : Nat → Prop} (hc : Closed ops S)
    {d1 d2 : List Nat} {i : Nat} {it : RItem} (hi : its[i]? = some it) (ho : ord = d1 ++ i :: d2) (hS : ¬ S i) (hp : ∀ o, ops[i]? = some o → ∀ e ∈ o.after, Region.binds .any e = true → S e.on) {t : Nat} (ht : t ∈ it.reads) :
    envD its (· ∈ d1) V ρ0 t = envD its S V ρ0 t := by
  have hnd := D0.nodup
  rw [ho] at hnd
  have hid1 : i ∉ d1 := by
    intro h
    have := (List.nodup_append.1 hnd).2.2 i h i (by simp)
    exact this rfl
  have hT : Closed ops (fun j => S j ∨ j = i) := by
    rintro j o (h | rfl) hj e he hb
    · exact .inl (hc j o h hj e he hb)
    · exact .inl (hp o hj e he hb)
  by_cases hw : ∃ (j : Nat) (jt : RItem), its[j]? = some jt ∧ jt.d = some t
  · obtain ⟨j, jt, h1, h2⟩ := hw
    by_cases hji : i = j
    · subst hji
      rw [envD_out, envD_out]
      · intro k kt hk hkt hd
        have := D0.dsts _ _ _ _ _ hkt h1 hd h2
        subst this; exact hS hk
      · intro k kt hk hkt hd
        have := D0.dsts _ _ _ _ _ hkt h1 hd h2
        subst this; exact hid1 hk
    · rcases D0.reads i j it jt t hji hi h1 h2 ht with hpre | hpre
      · have hnS : ¬ S j := fun h => hS (D0.sound i j hpre S hc h)
        have hnd1 : j ∉ d1 := by
          intro h
          obtain ⟨x, y, rfl⟩ := List.append_of_mem h
          have := D0.order x (y ++ i :: d2) j (by rw [ho]; simp) i (by simp)
          rw [this] at hpre; cases hpre
        rw [envD_out, envD_out]
        · intro k kt hk hkt hd
          have := D0.dsts _ _ _ _ _ hkt h1 hd h2
          subst this; exact hnS hk
        · intro k kt hk hkt hd
          have := D0.dsts _ _ _ _ _ hkt h1 hd h2
          subst this; exact hnd1 hk
      · have hSj : S j := (D0.sound j i hpre _ hT (.inr rfl)).resolve_right (fun h => hji h.symm)
        have hjo : j ∈ ord := D0.all j (D0.item j jt h1)
        rw [ho] at hjo
        have hj1 : j ∈ d1 := by
          rcases List.mem_append.1 hjo with h | h
          · exact h
          · rcases List.mem_cons.1 h with h | h
            · exact absurd h.symm hji
            · have := D0.order d1 d2 i ho j h
              rw [this] at hpre; cases hpre
        rw [envD_in D0 hj1 h1 h2, envD_in D0 hSj h1 h2]
  · rw [envD_out, envD_out]
    · intro k kt _ hkt hd; exact hw ⟨k, kt, hkt, hd⟩
    · intro k kt _ hkt hd; exact hw ⟨k, kt, hkt, hd⟩

theorem Pend.grow {wt wt' : Watch} {A A' : Nat → Nat} {i : Nat} {it : RItem} {ρ : Env} {v : Val} {σ : Names} {H0 H : Heap} (h : Pend wt A i it ρ v σ H0 H) (hA : A' i = A i) (hw : ∀ x ∈ wt, x ∈ wt') (o : AObj) :
    Pend wt' A' i it ρ v σ H0 (H ++ [o]) := by
  rcases h with h | ⟨hg, d, g, io, h1, h2⟩
  · exact .inl h
  · refine .inr ⟨hg, d, g, io, h1, ?_⟩
    rcases h2 with ⟨h2, h3⟩ | ⟨h2, h3, x, h4, h5⟩ | ⟨h2, f, l, h3, h4, h5, h6, h7, x, h8, h9⟩
    · exact .inl ⟨h2, pure_step h3 h2⟩
    · exact .inr (.inl ⟨h2, read_grow h2 h3 o, x, hw x h4, h5⟩)
    · exact .inr (.inr ⟨h2, f, l, h3, by rw [hA]; exact h4, by rw [hA]; exact app_old h5, by rw [hA]; exact h6, by rw [hA]; exact h7, x, hw x h8, by rw [hA]; exact h9⟩)

theorem Pend.weak {wt wt' : Watch} {A A' : Nat → Nat} {i : Nat} {it : RItem} {ρ : Env} {v : Val} {σ : Names} {H0 H : Heap} (h : Pend wt A i it ρ v σ H0 H) (hA : A' i = A i) (hw : ∀ x ∈ wt, x ∈ wt') :
    Pend wt' A' i it ρ v σ H0 H := by
  rcases h with h | ⟨hg, d, g, io, h1, h2⟩
  · exact .inl h
  · refine .inr ⟨hg, d, g, io, h1, ?_⟩
    rcases h2 with ⟨h2, h3⟩ | ⟨h2, h3, x, h4, h5⟩ | ⟨h2, f, l, h3, h4, h5, h6, h7, x, h8, h9⟩
    · exact .inl ⟨h2, h3⟩
    · exact .inr (.inl ⟨h2, h3, x, hw x h4, h5⟩)
    · exact .inr (.inr ⟨h2, f, l, h3, by rw [hA]; exact h4, by rw [hA]; exact h5, by rw [hA]; exact h6, by rw [hA]; exact h7, x, hw x h8, by rw [hA]; exact h9⟩)

def upd {α : Type} (V : Nat → α) (i : Nat) (v : α) : Nat → α := fun j => if j = i then v else V j
theorem upd_same {α : Type} (V : Nat → α) (i : Nat) (v : α) : upd V i v i = v := by simp [upd]
theorem upd_ne {α : Type} {V : Nat → α} {i j : Nat} {v : α} (h : j ≠ i) : upd V i v j = V j := by simp [upd, h]

/-- The walked order does one more that changes nothing. -/
theorem DInv.advance {P : Program} {N : Nat} {ops : Array Oper} {its : List RItem} {ord : List Nat} {pre : Nat → Nat → Bool} {K : Env → Heap → Prop} {ρ0 : Env} {σ0 : Names} {H0 : Heap} {w0 : World} (D0 : DStat P N ops its ord pre)
    {S : Nat → Prop} {done r : List Nat} {i : Nat} {wt : Watch} {ρ : Env} {H : Heap} {V : Nat → Val} {A : Nat → Nat} {σ : Names} {a : Act} {w : World} (h : DInv P N Df ops its ord pre K ρ0 σ0 H0 w0 S done (i :: r) wt ρ H V A σ a w)
    {it : RItem} (hi : its[i]? = some it) (he : it.eff = false) :
    ∃ wt' ρ' H' V' A', DInv P N Df ops its ord pre K ρ0 σ0 H0 w0 S (done ++ [i]) r wt' ρ' H' V' A' σ a w := by
  have hnd := D0.nodup
  rw [h.split] at hnd
  have hid : i ∉ done := fun hx => (List.nodup_append.1 hnd).2.2 i hx i (by simp) rfl
  have hSi : ¬ S i := fun hx => hid (h.sub i hx)
  have hmem : (fun j => j ∈ done ++ [i]) = (fun j => j ∈ done ∨ j = i) := by funext j; simp
  have push : ∀ (v : Val) (wt' : Watch) (H' : Heap) (A' : Nat → Nat), EvD P pre its r wt' (putv it.d v ρ) H' K → Rel σ H' w → Step σ0 H0 w0 σ H' w →
      (∀ j it ρj, j ∈ done → Pend wt A j it ρj (V j) σ H0 H → Pend wt' A' j it ρj (V j) σ H0 H') → Pend wt' A' i it ρ v σ H0 H' →
      (∀ x y, x ∈ done ++ [i] → y ∈ done ++ [i] → ¬ S x → ¬ S y → A' x = A' y → upd V i v x ≠ skipV → upd V i v y ≠ skipV → (∃ d g io, its[x]? = some (.op d g io) ∧ io.sort = 2) → (∃ d g io, its[y]? = some (.op d g io) ∧ io.sort = 2) → x = y) →
      ∃ wt' ρ' H' V' A', DInv P N Df ops its ord pre K ρ0 σ0 H0 w0 S (done ++ [i]) r wt' ρ' H' V' A' σ a w := by
    intro v wt' H' A' hgo hrel hstep hold hnew hap
    refine ⟨wt', putv it.d v ρ, H', upd V i v, A', ?_⟩
    have hVd : ∀ j, j ∈ done → V j = upd V i v j := fun j hj => (upd_ne (by rintro rfl; exact hid hj)).symm
    refine ⟨by rw [h.split]; simp, fun j hj => by simp [h.sub j hj], ?_, hgo, ?_, hrel, hstep, h.size, h.defers, ?_, ?_, hap⟩
    · intro j jt hj hjt hje
      simp at hj
      rcases hj with hj | rfl
      · exact h.effs j jt hj hjt hje
      · rw [hi] at hjt; cases hjt; rw [he] at hje; cases hje
    · intro t
      rw [hmem, envD_more D0 hi, upd_same]
      cases hd : it.d with
      | none => simp only [putv]; rw [if_neg (by simp), h.env t]; exact envD_congr hVd t
      | some d =>
        simp only [putv, Env.get]
        by_cases hdt : d = t
        · rw [if_pos hdt, if_pos (by rw [hdt])]
        · rw [if_neg hdt, if_neg (by simpa using hdt), h.env t]; exact envD_congr hVd t
    · intro t
      have := h.vals t
      rwa [envD_congr (V' := upd V i v) (fun j hj => hVd j (h.sub j hj))] at this
    · intro j hj hSj
      simp at hj
      rcases hj with hj | rfl
      · obtain ⟨jt, ρj, d1, d2, g1, g2, g3, g4⟩ := h.pend j hj hSj
        refine ⟨jt, ρj, d1, d2 ++ [i], g1, by rw [g2]; simp, fun t => ?_, ?_⟩
        · rw [g3 t]; exact envD_congr (fun k hk => hVd k (by rw [g2]; simp; exact .inl hk)) t
        · rw [← hVd j hj]; exact hold j jt ρj hj g4
      · refine ⟨it, ρ, done, [], hi, rfl, fun t => ?_, by rw [upd_same]; exact hnew⟩
        rw [h.env t]; exact envD_congr hVd t
  have hgo := h.go
  simp only [EvD, hi] at hgo
  have hapd : ∀ v, (v = skipV ∨ ∀ d g io, it = .op d g io → io.sort ≠ 2) →
      ∀ x y, x ∈ done ++ [i] → y ∈ done ++ [i] → ¬ S x → ¬ S y → A x = A y → upd V i v x ≠ skipV → upd V i v y ≠ skipV → (∃ d g io, its[x]? = some (.op d g io) ∧ io.sort = 2) → (∃ d g io, its[y]? = some (.op d g io) ∧ io.sort = 2) → x = y := by
    intro v hv x y hx hy hSx hSy hA hux huy hx2 hy2
    have hno : ∀ z, z = i → upd V i v z ≠ skipV → (∃ d g io, its[z]? = some (.op d g io) ∧ io.sort = 2) → False := by
      rintro z rfl hu ⟨d, g, io, h1, h2⟩
      rcases hv with hv | hv
      · rw [upd_same] at hu; exact hu hv
      · rw [hi] at h1; cases h1; exact hv _ _ _ rfl h2
    simp at hx hy
    rcases hx with hx | hx
    · rcases hy with hy | hy
      · rw [upd_ne (by rintro rfl; exact hid hx)] at hux
        rw [upd_ne (by rintro rfl; exact hid hy)] at huy
        exact h.apart x y hx hy hSx hSy hA hux huy hx2 hy2
      · exact (hno y hy huy hy2).elim
    · exact (hno x hx hux hx2).elim
  cases hg : guardOk it.g ρ with
  | none => simp [hg] at hgo
  | some b =>
    cases b with
    | false =>
      simp only [hg] at hgo
      exact push skipV wt H A hgo h.rel h.step (fun _ _ _ _ q => q) (.inl ⟨hg, rfl⟩) (hapd skipV (.inl rfl))
    | true =>
      simp only [hg] at hgo
      cases it with
      | call d g f xs => cases he
      | any d g no => cases he
      | op d g io =>
        simp only [] at hgo
        split at hgo
        · exact hgo.elim
        · rename_i v H1 hs
          have h3 : io.sort ≠ 3 := by simpa [RItem.eff] using he
          rw [if_neg h3] at hgo
          by_cases h2 : io.sort = 2
          · rw [if_pos h2] at hgo
            obtain ⟨f, l, hf, hv, hH⟩ := fresh_step hs h2
            subst hH
            refine push v _ _ (upd A i H.length) hgo (h.rel.grow _) (h.step.grow h.rel _) ?_ ?_ ?_
            · intro j jt ρj hj q
              exact q.grow (upd_ne (by rintro rfl; exact hid hj)) (fun x hx => List.mem_cons_of_mem _ hx) _
            · refine .inr ⟨hg, d, g, io, rfl, .inr (.inr ⟨h2, f, l, hf, by rw [upd_same]; exact hv, ?_, ?_, ?_, _, List.mem_cons_self .., rfl, ?_⟩)⟩
              · rw [upd_same]; simp
              · rw [upd_same]; exact h.rel.none_at (Nat.le_refl _)
              · rw [upd_same]; exact h.step.len
              · intro K' hK
                rw [upd_same]
                simp only at hK
                rw [hK]; simp
            · have hlow : ∀ j, j ∈ done → ¬ S j → V j ≠ skipV → (∃ d g io, its[j]? = some (.op d g io) ∧ io.sort = 2) → A j < H.length := by
                rintro j hj hSj hu ⟨d', g', io', k1, k2⟩
                obtain ⟨jt, ρj, d1, d2, g1, g2, g3, g4⟩ := h.pend j hj hSj
                rw [k1] at g1; cases g1
                rcases g4 with ⟨_, g5⟩ | ⟨_, d2, g2', io2, g6, g7⟩
                · exact absurd g5 hu
                · cases g6
                  rcases g7 with ⟨g8, _⟩ | ⟨g8, _⟩ | ⟨_, f', l', _, _, g9, _⟩
                  · omega
                  · omega
                  · rcases Nat.lt_or_ge (A j) H.length with q | q
                    · exact q
                    · rw [List.getElem?_eq_none q] at g9; cases g9
              intro x y hx hy hSx hSy hA hux huy hx2 hy2
              simp at hx hy
              rcases hx with hx | hx
              · have hxi : x ≠ i := by rintro rfl; exact hid hx
                rw [upd_ne hxi] at hux hA
                rcases hy with hy | hy
                · have hyi : y ≠ i := by rintro rfl; exact hid hy
                  rw [upd_ne hyi] at huy hA
                  exact h.apart x y hx hy hSx hSy hA hux huy hx2 hy2
                · subst hy
                  rw [upd_same] at hA
                  have := hlow x hx hSx hux hx2
                  omega
              · subst hx
                rcases hy with hy | hy
                · have hyi : y ≠ x := by rintro rfl; exact hid hy
                  rw [upd_ne hyi] at huy hA
                  rw [upd_same] at hA
                  have := hlow y hy hSy huy hy2
                  omega
                · exact hy.symm
          · rw [if_neg h2] at hgo
            have h01 : io.sort = 0 ∨ io.sort = 1 := by
              have : io.sort ≤ 3 := by
                cases io <;> simp [IOp.sort]
                split <;> omega
              omega
            have hq := quiet_step hs h01
            subst hq
            by_cases h1 : io.sort = 1
            · rw [if_pos h1] at hgo
              exact push v _ _ A hgo h.rel h.step (fun j jt ρj hj q => q.weak rfl (fun x hx => List.mem_cons_of_mem _ hx))
                (.inr ⟨hg, d, g, io, rfl, .inr (.inl ⟨h1, hs, _, List.mem_cons_self .., rfl, fun K' hK => hK⟩)⟩)
                (hapd v (.inr (by rintro _ _ _ ⟨⟩; omega)))
            · rw [if_neg h1] at hgo
              exact push v _ _ A hgo h.rel h.step (fun j jt ρj hj q => q)
                (.inr ⟨hg, d, g, io, rfl, .inl ⟨by omega, hs⟩⟩)
                (hapd v (.inr (by rintro _ _ _ ⟨⟩; omega)))
end
end Go.Proofs.YtmdilnelogechaaDoor.Ev
/- A region whose order is drawn: the drawn order's own steps. -/
namespace Go.Proofs.YtmdilnelogechaaDoor.Ev
open Go
variable {Df : List Deferred} {ro : Option Nat}

def guardF (g : Option (Nat × Bool)) (get : Nat → Val) : Option Bool :=
  match g with
  | none => some true
  | some (t, b) => match get t with
    | .b x => some (x == b)
    | .tup [] => some false
    | _ => none

theorem guardF_eq (g : Option (Nat × Bool)) (ρ : Env) : guardOk g ρ = guardF g ρ.get := rfl

theorem guardF_rel {σ : Names} {get : Nat → Val} {a : Act} (h : ∀ t, VRel σ (get t) (a.tmps.getD t undef)) {ops : Array Oper} {o : Oper} {g : Option (Nat × Bool)} (hg : guardC ops o.guard = some g) {b : Bool} (hb : guardF g get = some b) :
    Region.wanted o (yielded ops a.tmps) = b := by
  unfold guardC at hg
  unfold Region.wanted
  split at hg
  · rename_i h0
    cases hg
    rw [h0]
    simp [guardF] at hb
    subst hb
    rfl
  · rename_i j q h0
    rw [h0]
    split at hg
    · rename_i d hd
      cases hg
      simp only [guardF] at hb
      split at hb
      · rename_i x hx
        cases hb
        have := h d
        rw [hx] at this
        simp only [yielded, hd, Option.bind_some]
        have hget : a.tmps[d]? = some (.bool x) := by
          rw [Array.getD_eq_getD_getElem?] at this
          cases hq : a.tmps[d]? with
          | none =>
            rw [hq] at this
            simp only [Option.getD_none] at this
            exfalso
            unfold undef at this
            cases this
          | some y =>
            rw [hq] at this
            simp only [Option.getD_some] at this
            cases this
            rfl
        rw [hget]
        cases x <;> cases q <;> rfl
      · rename_i hx
        cases hb
        have := h d
        rw [hx] at this
        simp only [yielded, hd, Option.bind_some]
        rw [Array.getD_eq_getD_getElem?] at this
        cases hq : a.tmps[d]? with
        | none => cases q <;> rfl
        | some y =>
          rw [hq] at this
          simp only [Option.getD_some] at this
          cases this
          cases q <;> rfl
      · cases hb
    · cases hg

theorem compR_op {P : Program} {N : Nat} {ops : Array Oper} {o : Oper} {d : Option Nat} {g : Option (Nat × Bool)} {io : IOp} (h : compR P N ops o = some (.op d g io)) : comp P o = some io := by
  unfold compR at h
  split at h
  · split at h
    · split at h
      · split at h <;> cases h
      · split at h
        · rename_i hq; cases h; exact hq
        · split at h <;> cases h
    · cases h
  · cases h

section
open Classical
theorem evD_rel {its : List RItem} {S : Nat → Prop} {V : Nat → Val} {ρ0 : Env} {σ : Names} {a : Act} (h : ∀ t, VRel σ (envD its S V ρ0 t) (a.tmps.getD t undef)) :
    ∀ x y, opd x = some y → VRel σ (evD its S V ρ0 y) (a.eval x) := by
  intro x y hy
  cases x with
  | tmp t => cases hy; exact h t
  | const v =>
    simp only [opd, Option.map_eq_some_iff] at hy
    obtain ⟨z, hz, rfl⟩ := hy
    exact ofValue_rel σ hz
  | func f => cases hy; exact .fn _ rfl rfl (by simp) (by simp)
  | global g => cases hy

variable {P : Program} {N : Nat} {ops : Array Oper} {its : List RItem} {ord : List Nat} {pre : Nat → Nat → Bool} {K : Env → Heap → Prop} {ρ0 : Env} {σ0 : Names} {H0 : Heap} {w0 : World}

theorem vals_put (D0 : DStat P N ops its ord pre) {S : Nat → Prop} {V V' : Nat → Val} {σ σ' : Names} {a : Act} (h : ∀ t, VRel σ (envD its S V ρ0 t) (a.tmps.getD t undef)) (hsz : a.tmps.size = N) (hle : σ.le σ')
    {i : Nat} {it : RItem} (hi : its[i]? = some it) (hd : dstOk N it.d = true) {c : Value} (hc : VRel σ' (V' i) c) (hV : ∀ j, S j → V j = V' j) :
    ∀ t, VRel σ' (envD its (fun j => S j ∨ j = i) V' ρ0 t) ((a.put it.d c).tmps.getD t undef) := by
  intro t
  rw [envD_more D0 hi]
  cases hdd : it.d with
  | none =>
    rw [if_neg (by simp), ← envD_congr hV]
    exact (h t).mono hle
  | some d =>
    rw [hdd] at hd
    have hdN : d < N := by simpa [dstOk] using hd
    by_cases hdt : d = t
    · subst hdt
      rw [if_pos rfl]
      have : ((a.put (some d) c).tmps).getD d undef = c := by simp [Act.put, Array.getD, hsz, hdN]
      rw [this]; exact hc
    · rw [if_neg (by simpa using hdt), ← envD_congr hV]
      have : ((a.put (some d) c).tmps).getD t undef = a.tmps.getD t undef := by
        simp only [Act.put, Array.getD_eq_getD_getElem?, Array.getElem?_setIfInBounds]
        rw [if_neg hdt]
      rw [this]; exact (h t).mono hle

theorem put_size (a : Act) (d : Option Nat) (c : Value) : (a.put d c).tmps.size = a.tmps.size := by cases d <;> simp [Act.put]
theorem put_defers' (a : Act) (d : Option Nat) (c : Value) : (a.put d c).defers = a.defers := by cases d <;> rfl

theorem fresh_u {e : Opd → Val} {io : IOp} {f : Nat → Val} {l : List Val} (h : io.fresh e = some (f, l)) (n : Nat) : f n ≠ skipV := by
  cases io <;> simp only [IOp.fresh] at h
  case box x =>
    split at h
    · cases h; simp [skipV]
    · cases h
  case bslice sz ln z ps =>
    split at h
    · split at h
      · cases h; simp [skipV]
      · cases h
    · cases h
  case mksl sz bytes z l c =>
    split at h
    · split at h
      · cases h; simp [skipV]
      · cases h
    · cases h
  all_goals cases h

/-- The drawn order does one that the walked one has done already. -/
theorem DInv.pending (D0 : DStat P N ops its ord pre) {S : Nat → Prop} {done rem : List Nat} {i : Nat} {wt : Watch} {ρ : Env} {H : Heap} {V : Nat → Val} {A : Nat → Nat} {σ : Names} {a : Act} {w : World}
    (h : DInv P N Df ops its ord pre K ρ0 σ0 H0 w0 S done rem wt ρ H V A σ a w) (hid : i ∈ done) (hSi : ¬ S i) (hcl : Closed ops S) (hp : ∀ o, ops[i]? = some o → ∀ e ∈ o.after, Region.binds .any e = true → S e.on)
    {Q : Exit → Act → World → Prop} {Kn : Act → World → Prop}
    (hK : ∀ σ' a' w', DInv P N Df ops its ord pre K ρ0 σ0 H0 w0 (fun j => S j ∨ j = i) done rem wt ρ H V A σ' a' w' → Kn a' w') : wpOpIn (Fz ro) 0 P ops Q i Kn a w := by
  obtain ⟨it, ρi, d1, d2, hi, hdone, henv, hpend⟩ := h.pend i hid hSi
  have hlt : i < ops.size := D0.item i it hi
  have ho : ops[i]? = some ops[i] := Array.getElem?_eq_getElem hlt
  obtain ⟨it', hi', hco⟩ := D0.comp i _ ho
  rw [hi] at hi'; cases hi'
  obtain ⟨hd, hdN, hg⟩ := compR_d hco
  have hord : ord = d1 ++ i :: (d2 ++ rem) := by rw [h.split, hdone]; simp
  have hsee : ∀ t, t ∈ it.reads → ρi.get t = envD its S V ρ0 t := fun t ht => by rw [henv t]; exact seen D0 hcl hi hord hSi hp ht
  have hagree : ∀ x ∈ it.opds, Opd.ev ρi x = evD its S V ρ0 x := by
    intro x hx
    cases x with
    | c v => rfl
    | t n => exact hsee n (by simp [RItem.reads, mem_tmpsOf hx])
  have hguard : guardF it.g (envD its S V ρ0) = guardOk it.g ρi := by
    rw [guardF_eq]
    cases hgg : it.g with
    | none => rfl
    | some tb =>
      obtain ⟨t, b⟩ := tb
      simp only [guardF]
      rw [hsee t (by simp [RItem.reads, hgg])]
  have done' : ∀ σ' c w', VRel σ' (V i) c → Rel σ' H w' → Step σ0 H0 w0 σ' H w' → σ.le σ' →
      (∀ j, j ∈ done → ¬ S j → j ≠ i → V j ≠ skipV → (∃ d g io, its[j]? = some (.op d g io) ∧ io.sort = 2) → σ (A j) = none → σ' (A j) = none) → Kn (a.put ops[i].dst c) w' := by
    intro σ' c w' hv hr hs hle hal
    refine hK σ' _ w' ⟨h.split, fun j hj => ?_, fun j jt hj hjt hje => .inl (h.effs j jt hj hjt hje), h.go, h.env, hr, hs, by rw [put_size]; exact h.size, by rw [put_defers']; exact h.defers, ?_, ?_, ?_⟩
    · rcases hj with hj | rfl
      · exact h.sub j hj
      · exact hid
    · rw [← hd]
      exact vals_put D0 h.vals h.size hle hi (by rw [hd]; exact hdN) hv (fun _ _ => rfl)
    · intro j hj hSj
      have hSj1 : ¬ S j := fun q => hSj (.inl q)
      have hji : j ≠ i := fun q => hSj (.inr q)
      obtain ⟨jt, ρj, e1, e2, g1, g2, g3, g4⟩ := h.pend j hj hSj1
      refine ⟨jt, ρj, e1, e2, g1, g2, g3, ?_⟩
      rcases g4 with g4 | ⟨k0, d, g, io, k1, k2⟩
      · exact .inl g4
      · refine .inr ⟨k0, d, g, io, k1, ?_⟩
        rcases k2 with k2 | k2 | ⟨k2, f, l, k3, k4, k5, k6, k7, k8⟩
        · exact .inl k2
        · exact .inr (.inl k2)
        · exact .inr (.inr ⟨k2, f, l, k3, k4, k5, hal j hj hSj1 hji (by rw [k4]; exact fresh_u k3 _) ⟨d, g, io, by rw [g1, k1], k2⟩ k6, k7, k8⟩)
    · intro x y hx hy hSx hSy
      exact h.apart x y hx hy (fun q => hSx (.inl q)) (fun q => hSy (.inl q))
  unfold wpOpIn
  simp only [ho]
  rcases hpend with ⟨hg1, hu⟩ | ⟨hg1, d, g, io, hit, hk⟩
  · rw [guardF_rel h.vals hg (by rw [hguard]; exact hg1), if_neg (by simp)]
    exact ⟨fun _ _ => trivial, done' σ undef w (by rw [hu]; exact skip_rel) h.rel h.step (Names.le_refl _) (fun _ _ _ _ _ _ q => q)⟩
  · rw [guardF_rel h.vals hg (by rw [hguard]; exact hg1), if_pos rfl]
    subst hit
    have hio : comp P ops[i] = some io := by
      exact compR_op hco
    have quiet : io.step (Opd.ev ρi) H = some (V i, H) → Oper.wpIn (Fz ro) 0 P ops[i] a w Kn Q := by
      intro hs
      rw [step_congr hagree] at hs
      obtain ⟨x, c, w', σ', q1, q2, q3, q4, q5⟩ := comp_ok (ev := a.eval) (w := w) (evD_rel h.vals) (fun _ => rfl) h.rel hio hs
      have hle := q5.le h.rel.dom
      have hfin := done' σ' c w' q3 q4 (h.step.trans q5) hle (fun j hj hSj _ hu h2 hn => by
        obtain ⟨d', g', io', k1, k2⟩ := h2
        obtain ⟨jt, ρj, e1, e2, g1, g2, g3, g4⟩ := h.pend j hj hSj
        rw [k1] at g1; cases g1
        rcases g4 with ⟨_, g5⟩ | ⟨_, d2, g2', io2, g6, g7⟩
        · exact absurd g5 hu
        · cases g6
          rcases g7 with ⟨g8, _⟩ | ⟨g8, _⟩ | ⟨_, f', l', _, _, g9, _⟩
          · omega
          · omega
          · have : A j < H.length := by
              rcases Nat.lt_or_ge (A j) H.length with q | q
              · exact q
              · rw [List.getElem?_eq_none q] at g9; cases g9
            rw [q5.ext _ this]; exact hn)
      refine ⟨fun _ _ => trivial, ?_⟩
      rw [Oper.semAt_eq _ _ _ (compR_nd hco), q1]
      rcases q2 with rfl | ⟨rfl, rfl⟩
      · rw [Oper.uponIn_value]; exact hfin
      · rw [Oper.uponIn_skip]; exact hfin
    rcases hk with ⟨_, hs⟩ | ⟨_, hs, _⟩ | ⟨h2, f, l, hf, hv, hHl, hn, hlo, _⟩
    · exact quiet hs
    · exact quiet hs
    · have hal := D0.al i _ d g io ho hi h2
      have hf' := hf
      rw [fresh_congr hagree] at hf'
      obtain ⟨cs, e, c, q1, q2, q3, q4, q5⟩ := comp_fresh (w := w) (ev := a.eval) (evD_rel h.vals) (fun _ => rfl) hal hio hf'
      have hr := h.rel.map hn hHl q2 q3 q4 (w' := w.alloc (.cells cs e (0, 0))) rfl
      have hs := h.step.map hlo hHl (cs := cs) (e := e) (w' := w.alloc (.cells cs e (0, 0))) rfl ⟨rfl, rfl, rfl⟩
      have hVi : V i ≠ skipV := by rw [hv]; exact fresh_u hf _
      refine ⟨fun _ _ => trivial, ?_⟩
      rw [Oper.semAt_eq _ _ _ (compR_nd hco), q1, Oper.uponIn_value]
      refine done' _ c _ ?_ hr hs (Names.le_add hn) ?_
      · rw [hv]; exact q5 _ _ (Names.add_same _ _ _)
      · intro j hj hSj hji hu hj2 hnj
        rw [Names.add_ne]
        · exact hnj
        · intro hA
          exact hji (h.apart j i hj hid hSj hSi hA hu hVi hj2 ⟨d, g, io, hi, h2⟩)

/-- Both do one that changes objects, or calls. -/
theorem DInv.effect (D0 : DStat P N ops its ord pre) {S : Nat → Prop} {done r : List Nat} {i : Nat} {wt : Watch} {ρ : Env} {H : Heap} {V : Nat → Val} {A : Nat → Nat} {σ : Names} {a : Act} {w : World}
    (h : DInv P N Df ops its ord pre K ρ0 σ0 H0 w0 S done (i :: r) wt ρ H V A σ a w) (hSi : ¬ S i) (hcl : Closed ops S) (hp : ∀ o, ops[i]? = some o → ∀ e ∈ o.after, Region.binds .any e = true → S e.on)
    {it : RItem} (hi : its[i]? = some it) (he : it.eff = true)
    {Q : Exit → Act → World → Prop} {Kn : Act → World → Prop}
    (hK : ∀ ρ' H' V' σ' a' w', DInv P N Df ops its ord pre K ρ0 σ0 H0 w0 (fun j => S j ∨ j = i) (done ++ [i]) r wt ρ' H' V' A σ' a' w' → Kn a' w') : wpOpIn (Fz ro) 0 P ops Q i Kn a w := by
  have hnd := D0.nodup
  rw [h.split] at hnd
  have hid : i ∉ done := fun hx => (List.nodup_append.1 hnd).2.2 i hx i (by simp) rfl
  have hmem : (fun j => j ∈ done ++ [i]) = (fun j => j ∈ done ∨ j = i) := by funext j; simp
  have hlt : i < ops.size := D0.item i it hi
  have ho : ops[i]? = some ops[i] := Array.getElem?_eq_getElem hlt
  obtain ⟨it', hi', hco⟩ := D0.comp i _ ho
  rw [hi] at hi'; cases hi'
  obtain ⟨hd, hdN, hg⟩ := compR_d hco
  have hsee : ∀ t, t ∈ it.reads → ρ.get t = envD its S V ρ0 t := fun t ht => by rw [h.env t]; exact seen D0 hcl hi h.split hSi hp ht
  have hagree : ∀ x ∈ it.opds, Opd.ev ρ x = evD its S V ρ0 x := by
    intro x hx
    cases x with
    | c v => rfl
    | t n => exact hsee n (by simp [RItem.reads, mem_tmpsOf hx])
  have hguard : guardF it.g (envD its S V ρ0) = guardOk it.g ρ := by
    rw [guardF_eq]
    cases hgg : it.g with
    | none => rfl
    | some tb =>
      obtain ⟨t, b⟩ := tb
      simp only [guardF]
      rw [hsee t (by simp [RItem.reads, hgg])]
  have hT : Closed ops (fun j => S j ∨ j = i) := by
    rintro j o (hj | rfl) hjo e he hb
    · exact .inl (hcl j o hj hjo e he hb)
    · exact .inl (hp o hjo e he hb)
  have done' : ∀ v c σ' H' w', VRel σ' v c → Rel σ' H' w' → Step σ H w σ' H' w' → (∀ x ∈ wt, x.1 ∈ done → ¬ S x.1 → x.2 H' ∨ H' = H) → EvD P pre its r wt (putv it.d v ρ) H' K → Kn (a.put ops[i].dst c) w' := by
    intro v c σ' H' w' hv hr hs hch hgo
    have hle := hs.le h.rel.dom
    have hVd : ∀ j, j ∈ done → V j = upd V i v j := fun j hj => (upd_ne (by rintro rfl; exact hid hj)).symm
    refine hK (putv it.d v ρ) H' (upd V i v) σ' _ w' ⟨by rw [h.split]; simp, fun j hj => ?_, ?_, hgo, ?_, hr, h.step.trans hs, by rw [put_size]; exact h.size, by rw [put_defers']; exact h.defers, ?_, ?_, ?_⟩
    · rcases hj with hj | rfl
      · simp [h.sub j hj]
      · simp
    · intro j jt hj hjt hje
      simp at hj
      rcases hj with hj | rfl
      · exact .inl (h.effs j jt hj hjt hje)
      · exact .inr rfl
    · intro t
      rw [hmem, envD_more D0 hi, upd_same]
      cases hdd : it.d with
      | none => simp only [putv]; rw [if_neg (by simp), h.env t]; exact envD_congr hVd t
      | some d =>
        simp only [putv, Env.get]
        by_cases hdt : d = t
        · rw [if_pos hdt, if_pos (by rw [hdt])]
        · rw [if_neg hdt, if_neg (by simpa using hdt), h.env t]; exact envD_congr hVd t
    · rw [← hd]
      exact vals_put D0 h.vals h.size hle hi (by rw [hd]; exact hdN) (by rw [upd_same]; exact hv) (fun j hj => hVd j (h.sub j hj))
    · intro j hj hSj
      have hSj1 : ¬ S j := fun q => hSj (.inl q)
      have hji : j ≠ i := fun q => hSj (.inr q)
      have hjd : j ∈ done := by simp at hj; exact hj.resolve_right hji
      obtain ⟨jt, ρj, e1, e2, g1, g2, g3, g4⟩ := h.pend j hjd hSj1
      refine ⟨jt, ρj, e1, e2 ++ [i], g1, by rw [g2]; simp, fun t => ?_, ?_⟩
      · rw [g3 t]; exact envD_congr (fun k hk => hVd k (by rw [g2]; simp; exact .inl hk)) t
      · rw [← hVd j hjd]
        rcases g4 with g4 | ⟨k0, d, g, io, k1, k2⟩
        · exact .inl g4
        · refine .inr ⟨k0, d, g, io, k1, ?_⟩
          rcases k2 with ⟨k2, k3⟩ | ⟨k2, k3, x, k4, k5, k6⟩ | ⟨k2, f, l, k3, k4, k5, k6, k7, x, k8, k9, k10⟩
          · exact .inl ⟨k2, pure_step k3 k2⟩
          · refine .inr (.inl ⟨k2, ?_, x, k4, k5, k6⟩)
            rcases hch x k4 (by rw [k5]; exact hjd) (by rw [k5]; exact hSj1) with q | q
            · exact k6 H' q
            · rw [q]; exact k3
          · have hAl : A j < H.length := by
              rcases Nat.lt_or_ge (A j) H.length with q | q
              · exact q
              · rw [List.getElem?_eq_none q] at k5; cases k5
            refine .inr (.inr ⟨k2, f, l, k3, k4, ?_, by rw [hs.ext _ hAl]; exact k6, k7, x, k8, k9, k10⟩)
            rcases hch x k8 (by rw [k9]; exact hjd) (by rw [k9]; exact hSj1) with q | q
            · exact k10 H' q
            · rw [q]; exact k5
    · intro x y hx hy hSx hSy hA hux huy hx2 hy2
      have hxd : x ∈ done := by simp at hx; exact hx.resolve_right (fun q => hSx (.inr q))
      have hyd : y ∈ done := by simp at hy; exact hy.resolve_right (fun q => hSy (.inr q))
      rw [← hVd x hxd] at hux
      rw [← hVd y hyd] at huy
      exact h.apart x y hxd hyd (fun q => hSx (.inl q)) (fun q => hSy (.inl q)) hA hux huy hx2 hy2
  have hchk : ∀ H', recheck pre wt i H' → ∀ x ∈ wt, x.1 ∈ done → ¬ S x.1 → x.2 H' ∨ H' = H := by
    intro H' hr x hx hxd hxS
    rcases hr x hx with q | q
    · have := D0.sound x.1 i q _ hT (.inr rfl)
      rcases this with this | this
      · exact absurd this hxS
      · rw [this] at hxd; exact absurd hxd hid
    · exact .inl q
  have hgo := h.go
  simp only [EvD, hi] at hgo
  unfold wpOpIn
  simp only [ho]
  cases hgk : guardOk it.g ρ with
  | none => simp [hgk] at hgo
  | some b =>
    cases b with
    | false =>
      simp only [hgk] at hgo
      rw [guardF_rel h.vals hg (by rw [hguard]; exact hgk), if_neg (by simp)]
      exact ⟨fun _ _ => trivial, done' skipV undef σ H w skip_rel h.rel (Step.refl _ _ _ h.rel.dom) (fun _ _ _ _ => .inr rfl) hgo⟩
    | true =>
      simp only [hgk] at hgo
      rw [guardF_rel h.vals hg (by rw [hguard]; exact hgk), if_pos rfl]
      have hitem : EvItem P it (Opd.ev ρ) H (fun v H' => recheck pre wt i H' ∧ EvD P pre its r wt (putv it.d v ρ) H' K) := by
        cases it with
        | call d g f xs => exact hgo
        | any d g no => exact hgo
        | op d g io =>
          simp only [] at hgo
          simp only [EvItem]
          split at hgo
          · exact hgo.elim
          · rename_i v H1 hs
            have h3 : io.sort = 3 := by simpa [RItem.eff] using he
            rw [if_pos h3] at hgo
            rw [hs]
            exact hgo
      refine item_sound hco h.rel (evD_rel h.vals) (fun _ => rfl) (item_congr hagree hitem) ?_
      intro v c H' σ' w' hk hv hr hs
      exact done' v c σ' H' w' hv hr hs (hchk H' hk.1) hk.2
end
end Go.Proofs.YtmdilnelogechaaDoor.Ev
/- A region whose order is drawn: all orders; what is to be looked at once. -/
namespace Go.Proofs.YtmdilnelogechaaDoor.Ev
open Go
variable {Df : List Deferred} {ro : Option Nat}

def cnt (l : Array Bool) (n : Nat) : Nat := (List.range n).countP (fun i => !l.getD i false)

theorem cnt_set {l : Array Bool} {i : Nat} (hi : i < l.size) (hf : l.getD i false = false) : ∀ n, i < n → cnt (l.setIfInBounds i true) n + 1 = cnt l n := by
  have below : ∀ n, n ≤ i → cnt (l.setIfInBounds i true) n = cnt l n := by
    intro n hn
    unfold cnt
    apply List.countP_congr
    intro j hj
    simp at hj
    rw [getD_set_ne false (by omega)]
  intro n
  induction n with
  | zero => intro h; omega
  | succ n ih =>
    intro h
    have e : ∀ q : Array Bool, cnt q (n + 1) = cnt q n + (if !q.getD n false then 1 else 0) := by
      intro q
      unfold cnt
      rw [List.range_succ, List.countP_append]
      simp [List.countP_cons]
    rw [e, e]
    by_cases hn : i = n
    · subst hn
      rw [below i (Nat.le_refl _), hf]
      have : (l.setIfInBounds i true).getD i false = true := by simp [hi]
      rw [this]
      simp
    · rw [getD_set_ne false hn]
      have := ih (by omega)
      omega

section
open Classical
variable {P : Program} {N : Nat} {ops : Array Oper} {its : List RItem} {ord : List Nat} {pre : Nat → Nat → Bool} {K : Env → Heap → Prop} {ρ0 : Env} {σ0 : Names} {H0 : Heap} {w0 : World}

theorem DInv.goOp (D0 : DStat P N ops its ord pre) {S : Nat → Prop} {i : Nat} {σ : Names} {a : Act} {w : World} (hSi : ¬ S i) (hcl : Closed ops S) (hp : ∀ o, ops[i]? = some o → ∀ e ∈ o.after, Region.binds .any e = true → S e.on)
    {Q : Exit → Act → World → Prop} {Kn : Act → World → Prop}
    (hK : ∀ done rem wt ρ H V A σ' a' w', DInv P N Df ops its ord pre K ρ0 σ0 H0 w0 (fun j => S j ∨ j = i) done rem wt ρ H V A σ' a' w' → Kn a' w') :
    ∀ (rem done : List Nat) (wt : Watch) (ρ : Env) (H : Heap) (V : Nat → Val) (A : Nat → Nat), DInv P N Df ops its ord pre K ρ0 σ0 H0 w0 S done rem wt ρ H V A σ a w → (i ∈ done ∨ i ∈ rem) → wpOpIn (Fz ro) 0 P ops Q i Kn a w
  | [], done, wt, ρ, H, V, A, h, hi => by
    rcases hi with hi | hi
    · exact h.pending D0 hi hSi hcl hp (fun σ' a' w' q => hK _ _ _ _ _ _ _ σ' a' w' q)
    · cases hi
  | x :: r, done, wt, ρ, H, V, A, h, hi => by
    by_cases hid : i ∈ done
    · exact h.pending D0 hid hSi hcl hp (fun σ' a' w' q => hK _ _ _ _ _ _ _ σ' a' w' q)
    · have hir : i ∈ x :: r := hi.resolve_left hid
      have hxs : x < ops.size := D0.lt x (by rw [h.split]; simp)
      obtain ⟨it, hit, _⟩ := D0.comp x _ (Array.getElem?_eq_getElem hxs)
      cases hef : it.eff with
      | false =>
        obtain ⟨wt', ρ', H', V', A', h'⟩ := h.advance D0 hit hef
        refine DInv.goOp D0 hSi hcl hp hK r _ wt' ρ' H' V' A' h' ?_
        rcases List.mem_cons.1 hir with q | q
        · subst q; exact .inl (by simp)
        · exact .inr q
      | true =>
        rcases List.mem_cons.1 hir with q | q
        · subst q
          exact h.effect D0 hSi hcl hp hit hef (fun ρ' H' V' σ' a' w' q => hK _ _ _ _ _ _ _ σ' a' w' q)
        · exfalso
          have hpre := D0.eager done r x it h.split hit hef i q
          have hT : Closed ops (fun j => S j ∨ j = i) := by
            rintro j o (hj | rfl) hjo e he hb
            · exact .inl (hcl j o hj hjo e he hb)
            · exact .inl (hp o hjo e he hb)
          have hnd := D0.nodup
          rw [h.split] at hnd
          rcases D0.sound x i hpre _ hT (.inr rfl) with hx | hx
          · exact (List.nodup_append.1 hnd).2.2 x (h.sub x hx) x (by simp) rfl
          · subst hx
            have := (List.nodup_append.1 hnd).2.1
            exact (List.nodup_cons.1 this).1 q

theorem draw_any (D0 : DStat P N ops its ord pre) {Q : Exit → Act → World → Prop} (hQ : ∀ ρ' H' σ' a' w', K ρ' H' → Rel σ' H' w' → ARel N Df σ' ρ' a' → Step σ0 H0 w0 σ' H' w' → Q .normal a' w') :
    ∀ (fuel : Nat) (listed : Array Bool) (done rem : List Nat) (wt : Watch) (ρ : Env) (H : Heap) (V : Nat → Val) (A : Nat → Nat) (σ : Names) (a : Act) (w : World),
    listed.size = ops.size → cnt listed ops.size = fuel → Closed ops (fun j => listed.getD j false = true) →
    DInv P N Df ops its ord pre K ρ0 σ0 H0 w0 (fun j => listed.getD j false = true) done rem wt ρ H V A σ a w → wpAnyIn (Fz ro) 0 P .any ops Q fuel listed a w := by
  have fin : ∀ (listed : Array Bool) (done rem : List Nat) (wt : Watch) (ρ : Env) (H : Heap) (V : Nat → Val) (A : Nat → Nat) (σ : Names) (a : Act) (w : World),
      (∀ i, i < ops.size → listed.getD i false = true) → DInv P N Df ops its ord pre K ρ0 σ0 H0 w0 (fun j => listed.getD j false = true) done rem wt ρ H V A σ a w → Q .normal a w := by
    intro listed done rem wt ρ H V A σ a w hall h
    have hnd := D0.nodup
    rw [h.split] at hnd
    cases rem with
    | cons x r =>
      exfalso
      have hx : x < ops.size := D0.lt x (by rw [h.split]; simp)
      exact (List.nodup_append.1 hnd).2.2 x (h.sub x (hall x hx)) x (by simp) rfl
    | nil =>
      have hS : (fun j => listed.getD j false = true) = (fun j => j ∈ done) := by
        funext j
        apply propext
        constructor
        · exact h.sub j
        · intro hj
          exact hall j (D0.lt j (by rw [h.split]; simp [hj]))
      refine hQ ρ H σ a w h.go h.rel ⟨h.size, h.defers, fun t => ?_⟩ h.step
      have := h.vals t
      rw [h.env t]
      rwa [hS] at this
  intro fuel
  induction fuel with
  | zero =>
    intro listed done rem wt ρ H V A σ a w hsz hc hcl h
    have hall : ∀ i, i < ops.size → listed.getD i false = true := by
      intro i hi
      unfold cnt at hc
      rw [List.countP_eq_zero] at hc
      have := hc i (by simpa using hi)
      simpa using this
    refine ⟨?_, fin listed done rem wt ρ H V A σ a w hall h⟩
    rw [List.eq_nil_iff_forall_not_mem]
    intro i hi
    obtain ⟨h1, o, h2, _⟩ := mem_ready.1 hi
    have hlt : i < ops.size := (Array.getElem?_eq_some_iff.1 h2).1
    have h3 := hall i hlt
    simp only [Array.getD_eq_getD_getElem?, Array.getElem?_eq_getElem (show i < listed.size by omega), Option.getD_some] at h1 h3
    rw [h1] at h3; cases h3
  | succ fuel ih =>
    intro listed done rem wt ρ H V A σ a w hsz hc hcl h
    refine ⟨fun hnil => fin listed done rem wt ρ H V A σ a w ?_ h, fun i hi => ?_⟩
    · intro i
      induction i using Nat.strongRecOn with
      | _ i ihi =>
        intro hlt
        cases hli : listed.getD i false with
        | true => rfl
        | false =>
          exfalso
          have hmem : i ∈ Region.ready .any ops listed := by
            refine mem_ready.2 ⟨?_, ops[i], Array.getElem?_eq_getElem hlt, fun e he hb => ?_⟩
            · simp only [Array.getD_eq_getD_getElem?, Array.getElem?_eq_getElem (show i < listed.size by omega), Option.getD_some] at hli ⊢
              exact hli
            · have := D0.back i _ e (Array.getElem?_eq_getElem hlt) he hb
              exact ihi e.on this (by omega)
          rw [hnil] at hmem
          cases hmem
    · obtain ⟨h1, o, h2, h3⟩ := mem_ready.1 hi
      have hlt : i < ops.size := (Array.getElem?_eq_some_iff.1 h2).1
      have hli : listed.getD i false = false := by
        simp only [Array.getD_eq_getD_getElem?, Array.getElem?_eq_getElem (show i < listed.size by omega), Option.getD_some] at h1 ⊢
        exact h1
      have hset : (fun j => (listed.setIfInBounds i true).getD j false = true) = (fun j => listed.getD j false = true ∨ j = i) := by
        funext j
        apply propext
        by_cases hj : i = j
        · subst hj
          simp [show i < listed.size by omega]
        · rw [getD_set_ne false hj]
          constructor
          · exact .inl
          · rintro (q | q)
            · exact q
            · exact absurd q.symm hj
      have hpr : ∀ o, ops[i]? = some o → ∀ e ∈ o.after, Region.binds .any e = true → listed.getD e.on false = true := by
        intro o' ho' e he hb
        rw [h2] at ho'; cases ho'
        exact h3 e he hb
      have hcl' : Closed ops (fun j => (listed.setIfInBounds i true).getD j false = true) := by
        rw [hset]
        rintro j o (hj | rfl) hjo e he hb
        · exact .inl (hcl j o hj hjo e he hb)
        · exact .inl (hpr o hjo e he hb)
      refine DInv.goOp D0 (S := fun j => listed.getD j false = true) (by rw [hli]; simp) hcl hpr ?_ rem done wt ρ H V A h ?_
      · intro done' rem' wt' ρ' H' V' A' σ' a' w' h'
        refine ih _ done' rem' wt' ρ' H' V' A' σ' a' w' (by simpa using hsz) ?_ hcl' (by rw [hset]; exact h')
        have := cnt_set (show i < listed.size by omega) hli ops.size hlt
        omega
      · have := D0.all i hlt
        rw [h.split] at this
        exact List.mem_append.1 this

/-- THE RULE: a region whose order is drawn. -/
theorem region_draw (D0 : DStat P N ops its ord pre) (hm : P.follows .mixedOrders = true) {id : Nat} {σ : Names} {H : Heap} {w : World} (r : Rel σ H w) {ρ : Env} {a : Act} (ar : ARel N Df σ ρ a)
    (hk : EvD P pre its ord [] ρ H K) {Q : Exit → Act → World → Prop} (hQ : ∀ ρ' H' σ' a' w', K ρ' H' → Rel σ' H' w' → ARel N Df σ' ρ' a' → Step σ H w σ' H' w' → Q .normal a' w') : (Code.region id ops true).wpIn (Fz ro) 0 P Q a w := by
  refine wpIn_region_any hm ?_
  have hf : (fun j => (Array.replicate ops.size false).getD j false = true) = (fun _ => False) := by
    funext j
    apply propext
    simp only [Array.getD_eq_getD_getElem?, Array.getElem?_replicate, iff_false]
    split <;> simp
  have s0 : Step σ H w σ H { w with drawn := w.drawn + 1 } :=
    { ext := fun _ _ => rfl, len := Nat.le_refl _, size := Nat.le_refl _, keep := fun _ _ _ => rfl, fresh := fun id l hs hl => .inr ⟨id, l, hs, hl, rfl⟩, live := fun _ _ h => h, rest := ⟨rfl, rfl, rfl⟩, ro := fun id l hs hl => ⟨id, l, hs, hl, rfl⟩ }
  refine draw_any (σ0 := σ) (H0 := H) (w0 := w) (ρ0 := ρ) (K := K) D0 hQ _ _ [] ord [] ρ H (fun _ => skipV) (fun _ => 0) σ a _ (by simp) ?_ (by rw [hf]; intro j o h; exact h.elim) ?_
  · unfold cnt
    rw [List.countP_eq_length.2]
    · simp
    · intro j hj
      simp at hj
      simp [hj]
  · rw [hf]
    refine ⟨rfl, fun _ q => q.elim, fun _ _ q => by simp at q, hk, fun t => ?_, r.drawn _, s0, ar.size, ar.defers, fun t => ?_, fun _ q => by simp at q, fun _ _ q => by simp at q⟩
    · rw [envD_out]; intro j _ h; simp at h
    · rw [envD_out]
      · exact ar.vals t
      · intro j _ h; exact h.elim
end
end Go.Proofs.YtmdilnelogechaaDoor.Ev
/- What a drawn region has to show, decided. -/
namespace Go.Proofs.YtmdilnelogechaaDoor.Ev
open Go

def maskOf (acc : List Nat) (o : Oper) : Nat := o.after.toList.foldl (fun s e => if Region.binds .any e then s ||| 2 ^ e.on ||| acc.getD e.on 0 else s) 0

def masksFrom : List Oper → List Nat → List Nat
  | [], acc => acc
  | o :: r, acc => masksFrom r (acc ++ [maskOf acc o])

def preOf (ms : List Nat) (i j : Nat) : Bool := (ms.getD j 0).testBit i

theorem or_pow_testBit (s k j : Nat) : (s ||| 2 ^ k).testBit j = (s.testBit j || decide (k = j)) := by
  rw [Nat.testBit_or, Nat.testBit_two_pow]

theorem maskOf_sound {ops : Array Oper} {acc : List Nat} {o : Oper} {i : Nat} (ho : ops[i]? = some o)
    (hacc : ∀ j x, (acc.getD j 0).testBit x = true → ∀ S : Nat → Prop, Closed ops S → S j → S x) {x : Nat} (h : (maskOf acc o).testBit x = true) {S : Nat → Prop} (hS : Closed ops S) (hi : S i) : S x := by
  have key : ∀ (l : List Edge) (s : Nat), (∀ e ∈ l, e ∈ o.after) → (s.testBit x = true → S x) → (l.foldl (fun s e => if Region.binds .any e then s ||| 2 ^ e.on ||| acc.getD e.on 0 else s) s).testBit x = true → S x := by
    intro l
    induction l with
    | nil => intro s _ hs h; exact hs h
    | cons e l ih =>
      intro s hl hs h
      rw [List.foldl_cons] at h
      refine ih _ (fun e' he' => hl e' (by simp [he'])) ?_ h
      intro hx
      split at hx
      · rename_i hb
        rw [Nat.testBit_or, or_pow_testBit] at hx
        have hon : S e.on := hS i o hi ho e (hl e (by simp)) hb
        rw [Bool.or_eq_true, Bool.or_eq_true] at hx
        rcases hx with (hx | hx) | hx
        · exact hs hx
        · simp at hx; subst hx; exact hon
        · exact hacc e.on x hx S hS hon
      · exact hs hx
  exact key o.after.toList 0 (fun e he => by simpa using he) (by simp) h

theorem masksFrom_sound {ops : Array Oper} : ∀ {l : List Oper} {acc : List Nat}, (∀ k o, l[k]? = some o → ops[acc.length + k]? = some o) →
    (∀ j x, (acc.getD j 0).testBit x = true → ∀ S : Nat → Prop, Closed ops S → S j → S x) →
    ∀ j x, ((masksFrom l acc).getD j 0).testBit x = true → ∀ S : Nat → Prop, Closed ops S → S j → S x
  | [], acc, _, h => h
  | o :: r, acc, hl, h => by
    simp only [masksFrom]
    refine masksFrom_sound (l := r) (acc := acc ++ [maskOf acc o]) (fun k o' hk => ?_) (fun j x hx S hS hj => ?_)
    · have := hl (k + 1) o' (by simpa using hk)
      simp only [List.length_append, List.length_singleton]
      rwa [show acc.length + 1 + k = acc.length + (k + 1) by omega]
    · rcases Nat.lt_trichotomy j acc.length with hlt | heq | hgt
      · have : (acc ++ [maskOf acc o]).getD j 0 = acc.getD j 0 := by
          simp [List.getD_eq_getElem?_getD, List.getElem?_append_left hlt]
        rw [this] at hx
        exact h j x hx S hS hj
      · subst heq
        have : (acc ++ [maskOf acc o]).getD acc.length 0 = maskOf acc o := by simp
        rw [this] at hx
        exact maskOf_sound (hl 0 o rfl) h hx hS hj
      · have : (acc ++ [maskOf acc o]).getD j 0 = 0 := by
          rw [List.getD_eq_getElem?_getD, List.getElem?_eq_none (by simp; omega)]; rfl
        rw [this] at hx
        simp at hx

def itemsC (P : Program) (N : Nat) (ops : Array Oper) : List Oper → Option (List RItem)
  | [] => some []
  | o :: r => match compR P N ops o with
    | some it => match itemsC P N ops r with
      | some l => some (it :: l)
      | none => none
    | none => none

theorem itemsC_spec {P : Program} {N : Nat} {ops : Array Oper} : ∀ {l : List Oper} {its : List RItem}, itemsC P N ops l = some its →
    l.length = its.length ∧ ∀ (k : Nat) (o : Oper), l[k]? = some o → ∃ it, its[k]? = some it ∧ compR P N ops o = some it
  | [], its, h => by cases h; simp
  | o :: r, its, h => by
    simp only [itemsC] at h
    split at h
    · rename_i it h1
      split at h
      · rename_i l h2
        cases h
        obtain ⟨a, b⟩ := itemsC_spec h2
        refine ⟨by simp [a], fun k o' hk => ?_⟩
        cases k with
        | zero => simp at hk; subst hk; exact ⟨it, rfl, h1⟩
        | succ k => simpa using b k o' (by simpa using hk)
      · cases h
    · cases h

def pairsOk (eff : Nat → Bool) (pre : Nat → Nat → Bool) : List Nat → Bool
  | [] => true
  | x :: r => r.all (fun y => !pre y x && (!eff x || pre x y)) && pairsOk eff pre r

theorem pairsOk_spec {eff : Nat → Bool} {pre : Nat → Nat → Bool} : ∀ {l a b : List Nat} {x : Nat}, pairsOk eff pre l = true → l = a ++ x :: b → ∀ y ∈ b, pre y x = false ∧ (eff x = true → pre x y = true)
  | [], a, b, x, _, h, _, _ => by simp at h
  | z :: r, [], b, x, hp, h, y, hy => by
    simp at h
    obtain ⟨rfl, rfl⟩ := h
    simp only [pairsOk, Bool.and_eq_true, List.all_eq_true] at hp
    have := hp.1 y hy
    simp at this
    exact ⟨this.1, fun he => this.2.resolve_left (by simp [he])⟩
  | z :: r, c :: a, b, x, hp, h, y, hy => by
    simp at h
    simp only [pairsOk, Bool.and_eq_true] at hp
    exact pairsOk_spec hp.2 h.2 y hy

def nodupB : List Nat → Bool
  | [] => true
  | x :: r => !r.contains x && nodupB r
theorem nodupB_spec : ∀ {l : List Nat}, nodupB l = true → l.Nodup
  | [], _ => List.nodup_nil
  | x :: r, h => by
    simp only [nodupB, Bool.and_eq_true] at h
    exact List.nodup_cons.2 ⟨by simpa using h.1, nodupB_spec h.2⟩

def effAt (its : List RItem) (i : Nat) : Bool :=
  match its[i]? with
  | some it => it.eff
  | none => false

def alOk : List Oper → List RItem → Bool
  | o :: r, .op _ _ io :: l => (io.sort != 2 || isAl o) && alOk r l
  | _ :: r, _ :: l => alOk r l
  | _, _ => true

theorem alOk_spec : ∀ {os : List Oper} {its : List RItem}, alOk os its = true → ∀ (i : Nat) (o : Oper) (d : Option Nat) (g : Option (Nat × Bool)) (io : IOp), os[i]? = some o → its[i]? = some (.op d g io) → io.sort = 2 → isAl o = true
  | [], its, h, i, o, d, g, io, h1, _, _ => by simp at h1
  | _ :: _, [], h, i, o, d, g, io, _, h2, _ => by simp at h2
  | o' :: r, it :: l, h, i, o, d, g, io, h1, h2, h3 => by
    cases i with
    | zero =>
      simp at h1 h2
      subst h1; subst h2
      simp only [alOk, Bool.and_eq_true] at h
      have := h.1
      simp [h3] at this
      exact this
    | succ i =>
      have hr : alOk r l = true := by
        cases it <;> simp only [alOk, Bool.and_eq_true] at h <;> first | exact h.2 | exact h
      exact alOk_spec hr i o d g io (by simpa using h1) (by simpa using h2) h3

def slotsOk (its : List RItem) (pre : Nat → Nat → Bool) : Bool :=
  (List.range its.length).all fun i => (List.range its.length).all fun j => i == j || match its[i]?, its[j]? with
    | some it, some jt => match jt.d with
      | some d => it.d != some d && (!it.reads.contains d || pre i j || pre j i)
      | none => true
    | _, _ => true

def backOk : List Oper → Nat → Bool
  | [], _ => true
  | o :: r, i => o.after.toList.all (fun e => !Region.binds .any e || decide (e.on < i)) && backOk r (i + 1)
theorem backOk_spec : ∀ {l : List Oper} {k : Nat}, backOk l k = true → ∀ (i : Nat) (o : Oper) (e : Edge), l[i]? = some o → e ∈ o.after → Region.binds .any e = true → e.on < k + i
  | [], k, h, i, o, e, h1, _, _ => by simp at h1
  | o' :: r, k, h, i, o, e, h1, h2, h3 => by
    simp only [backOk, Bool.and_eq_true] at h
    cases i with
    | zero =>
      simp at h1
      subst h1
      have := List.all_eq_true.1 h.1 e (by simpa using h2)
      simp [h3] at this
      omega
    | succ i =>
      have := backOk_spec h.2 i o e (by simpa using h1) h2 h3
      omega

def drawOk (ops : List Oper) (its : List RItem) (ord ms : List Nat) : Bool :=
  alOk ops its && nodupB ord && (List.range ops.length).all (fun i => ord.contains i) && ord.all (fun i => decide (i < ops.length)) &&
    pairsOk (effAt its) (preOf ms) ord && slotsOk its (preOf ms) && backOk ops 0

theorem dstat {P : Program} {N : Nat} {ops : Array Oper} {its : List RItem} {ord : List Nat} (hc : itemsC P N ops ops.toList = some its) (hd : drawOk ops.toList its ord (masksFrom ops.toList []) = true) :
    DStat P N ops its ord (preOf (masksFrom ops.toList [])) := by
  obtain ⟨hl, hcomp⟩ := itemsC_spec hc
  simp only [drawOk, Bool.and_eq_true] at hd
  obtain ⟨⟨⟨⟨⟨⟨h1, h2⟩, h3⟩, h4⟩, h5⟩, h6⟩, h7⟩ := hd
  have hitem : ∀ (i : Nat) (it : RItem), its[i]? = some it → i < ops.size := by
    intro i it h
    have := (List.getElem?_eq_some_iff.1 h).1
    simp at hl
    omega
  have slots : ∀ (i j : Nat) (it jt : RItem) (d : Nat), i ≠ j → its[i]? = some it → its[j]? = some jt → jt.d = some d → it.d ≠ some d ∧ (d ∈ it.reads → preOf (masksFrom ops.toList []) i j = true ∨ preOf (masksFrom ops.toList []) j i = true) := by
    intro i j it jt d hij hi hj hd
    unfold slotsOk at h6
    have := List.all_eq_true.1 (List.all_eq_true.1 h6 i (by simp; exact (List.getElem?_eq_some_iff.1 hi).1)) j (by simp; exact (List.getElem?_eq_some_iff.1 hj).1)
    simp [hij, hi, hj, hd] at this
    refine ⟨this.1, fun hr => ?_⟩
    rcases this.2 with (q | q) | q
    · exact absurd hr q
    · exact .inl q
    · exact .inr q
  refine ⟨?_, hitem, ?_, nodupB_spec h2, ?_, ?_, ?_, ?_, ?_, ?_, ?_, ?_⟩
  · intro i o h
    exact hcomp i o (by simpa using h)
  · intro i o d g io ho hi h
    exact alOk_spec h1 i o d g io (by simpa using ho) hi h
  · intro i hi
    have := List.all_eq_true.1 h3 i (by simpa using hi)
    simpa using this
  · intro i hi
    have := List.all_eq_true.1 h4 i hi
    simpa using this
  · intro i j hp S hS hj
    exact masksFrom_sound (ops := ops) (l := ops.toList) (acc := []) (fun k o hk => by simpa using hk) (fun j x hx => by simp at hx) j i hp S hS hj
  · intro a b x it ho hi he y hy
    exact (pairsOk_spec h5 ho y hy).2 (by simp [effAt, hi, he])
  · intro a b x ho y hy
    exact (pairsOk_spec h5 ho y hy).1
  · intro i j it jt d hij hi hj hd hr
    exact (slots i j it jt d hij hi hj hd).2 hr
  · intro i j it jt d hi hj hd1 hd2
    by_cases hij : i = j
    · exact hij
    · exact absurd hd1 (slots i j it jt d hij hi hj hd2).1
  · intro i o e ho he hb
    have := backOk_spec h7 i o e (by simpa using ho) he hb
    omega

/-- The walked order: what changes nothing as early as may be. -/
def orderOf (n : Nat) (ms : List Nat) (eff : Nat → Bool) : Nat → Nat → List Nat
  | 0, _ => []
  | f + 1, done =>
    let can := fun i => !done.testBit i && (ms.getD i 0 &&& done) == ms.getD i 0
    match (List.range n).find? (fun i => can i && !eff i) with
    | some i => i :: orderOf n ms eff f (done ||| 2 ^ i)
    | none => match (List.range n).find? can with
      | some i => i :: orderOf n ms eff f (done ||| 2 ^ i)
      | none => []
end Go.Proofs.YtmdilnelogechaaDoor.Ev
