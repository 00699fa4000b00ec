/- This text of the evaluator proves: code, calls, closed runs and a callee's own objects. No condition. -/
import Derived.Test.YtmdilnelogechaaDoorEvD
import Derived.RangeFuncLeaves
import Derived.RangeFuncRecord
import Derived.Deep.Slices
import Derived.WideShapes
import Derived.ChangeShapes
set_option linter.unusedVariables false
set_option linter.unusedSimpArgs false
set_option linter.constructorNameAsVariable false
/- Code, functions. -/
namespace Go.Proofs.YtmdilnelogechaaDoor.Ev
open Go
variable {Df : List Deferred} {ro : Option Nat}

inductive ICode where
  | skip
  | seq (a b : ICode)
  | cond (c : Opd) (x y : ICode)
  | block (id : Nat) (b : ICode)
  | loop (b : ICode)
  | exit (id : Nat)
  | ret
  | reg (its : List RItem)
  | dreg (its : List RItem) (ord ms : List Nat)
  | rf (g : Opd) (ps : List Nat) (asg body : ICode)
  | scope (b : ICode)
  | label (l : Nat)
  | goto (l : Nat)
  deriving Inhabited

/-- No loop over a function. -/
def ICode.flat : ICode → Bool
  | .seq a b => a.flat && b.flat
  | .cond _ a b => a.flat && b.flat
  | .block _ b => b.flat
  | .loop b => b.flat
  | .scope b => b.flat
  | .rf _ _ _ _ => false
  | _ => true
def compC (P : Program) (N : Nat) : Code → Option ICode
  | .skip => some .skip
  | .seq a b => match compC P N a, compC P N b with
    | some x, some y => some (.seq x y)
    | _, _ => none
  | .cond c x y => match opd c, compC P N x, compC P N y with
    | some c, some x, some y => some (.cond c x y)
    | _, _, _ => none
  | .block id b => match compC P N b with
    | some b => some (.block id b)
    | none => none
  | .loop b => match compC P N b with
    | some b => some (.loop b)
    | none => none
  | .exit id => some (.exit id)
  | .ret => some .ret
  | .scope b => match compC P N b with
    | some b => some (.scope b)
    | none => none
  | .label l => some (.label l)
  | .goto l => some (.goto l)
  | .rangeFunc g ps asg body => match opd g, compC P N asg, compC P N body with
    | some g, some x, some y => if (ps.toList.all fun t => decide (t < N)) && x.flat && y.flat then some (.rf g ps.toList x y) else none
    | _, _, _ => none
  | .region _ ops draw => match itemsC P N ops ops.toList with
    | none => none
    | some its =>
      if draw then
        if P.follows .mixedOrders && drawOk ops.toList its (orderOf ops.size (masksFrom ops.toList []) (effAt its) ops.size 0) (masksFrom ops.toList []) then
          some (.dreg its (orderOf ops.size (masksFrom ops.toList []) (effAt its) ops.size 0) (masksFrom ops.toList []))
        else none
      else some (.reg its)
  | _ => none

/-- The marks that an activation's loops over functions left: their blocks hold no call, and nobody names them. -/
structure Mk (b : Nat) (D : List Deferred) (σ : Names) (H : Heap) (w : World) : Prop where
  at_ : ∀ d ∈ D, ∃ r, d = { target := .collected r, args := #[] } ∧ b ≤ r ∧ w.heap[r]? = some (.deferred (some [])) ∧ ∀ id l, σ id = some l → (Live H id ∨ Ro H id) → l.blk ≠ r
  apart : D.Pairwise fun x y => x.target ≠ y.target
theorem Mk.nil {b : Nat} {σ : Names} {H : Heap} {w : World} : Mk b [] σ H w := ⟨fun _ h => by simp at h, .nil⟩
theorem Mk.step {b m : Nat} {D : List Deferred} {σ σ' : Names} {H H' : Heap} {w w' : World} (h : Mk b D σ H w) (s : StepM m σ H w σ' H' w') : Mk b D σ' H' w' := by
  refine ⟨fun d hd => ?_, h.apart⟩
  obtain ⟨r, h1, h2, h3, h4⟩ := h.at_ d hd
  have hr : r < w.heap.size := (Array.getElem?_eq_some_iff.1 h3).1
  refine ⟨r, h1, h2, by rw [s.keep r hr fun id l hs hl => h4 id l hs (.inl hl)]; exact h3, fun id l hs hl => ?_⟩
  rcases hl with hl | hl
  · rcases s.fresh id l hs hl with hf | ⟨x, lx, g1, g2, g3⟩
    · omega
    · rw [← g3]; exact h4 x lx g1 (.inl g2)
  · obtain ⟨x, lx, g1, g2, g3⟩ := s.ro id l hs hl
    rw [← g3]; exact h4 x lx g1 (.inr g2)
def CPost (N m b : Nat) (σ : Names) (H : Heap) (w : World) (Q : Exit → Env → Heap → Prop) : Exit → Act → World → Prop :=
  fun e a' w' => ∃ ρ' H' σ' D, Q e ρ' H' ∧ Rel σ' H' w' ∧ ARel N D σ' ρ' a' ∧ Mk b D σ' H' w' ∧ StepM m σ H w σ' H' w'

def Ev (ro : Option Nat) (P : Program) (N m : Nat) (c : Code) (ρ : Env) (H : Heap) (Q : Exit → Env → Heap → Prop) : Prop :=
  ∀ (b : Nat) (D : List Deferred) (σ : Names) (w : World) (a : Act), m ≤ H.length → Rel σ H w → ARel N D σ ρ a → Mk b D σ H w → b ≤ w.heap.size → c.wpIn (Fz ro) 0 P (CPost N m b σ H w Q) a w

/-- What an abstract code comes to. -/
def EvI (P : Program) (N m : Nat) (ic : ICode) (ρ : Env) (H : Heap) (Q : Exit → Env → Heap → Prop) : Prop :=
  ∀ c, compC P N c = some ic → ∀ ro, (ro = none ∨ ic.flat = true) → Ev ro P N m c ρ H Q
theorem fl_l {ro : Option Nat} {x y : Bool} (h : ro = none ∨ (x && y) = true) : ro = none ∨ x = true := h.imp id fun q => by simp at q; exact q.1
theorem fl_r {ro : Option Nat} {x y : Bool} (h : ro = none ∨ (x && y) = true) : ro = none ∨ y = true := h.imp id fun q => by simp at q; exact q.2

def keepEnv (ks : List Nat) (ρ : Env) : Env := ks.map fun k => (k, ρ.get k)

theorem keepEnv_get (ks : List Nat) (ρ : Env) (t : Nat) : (keepEnv ks ρ).get t = ρ.get t ∨ (keepEnv ks ρ).get t = .u := by
  induction ks with
  | nil => exact .inr rfl
  | cons k ks ih =>
    simp only [keepEnv, List.map_cons, Env.get]
    by_cases h : k = t
    · subst h; rw [if_pos rfl]; exact .inl rfl
    · rw [if_neg h]; exact ih

theorem ARel.weak {N : Nat} {σ : Names} {ρ ρ' : Env} {a : Act} (h : ARel N Df σ ρ a) (hw : ∀ t, ρ'.get t = ρ.get t ∨ ρ'.get t = .u) : ARel N Df σ ρ' a :=
  ⟨h.size, h.defers, fun t => by rcases hw t with q | q <;> rw [q]; exact h.vals t; exact .u _⟩

variable {P : Program} {N m : Nat}

theorem EvI.mono {ic : ICode} {ρ : Env} {H : Heap} {Q R : Exit → Env → Heap → Prop} (h : EvI P N m ic ρ H Q) (hq : ∀ e ρ' H', Q e ρ' H' → R e ρ' H') : EvI P N m ic ρ H R :=
  fun c hc ro hf b D σ w a hm r ar mk hb => wpIn_mono (h c hc ro hf b D σ w a hm r ar mk hb) fun e _ _ ⟨ρ', H', σ', D', q, rest⟩ => ⟨ρ', H', σ', D', hq _ _ _ q, rest⟩

/-- What is not asked any more may be forgotten. -/
theorem EvI.weak {ic : ICode} {ρ ρ' : Env} {H : Heap} {Q : Exit → Env → Heap → Prop} (hw : ∀ t, ρ'.get t = ρ.get t ∨ ρ'.get t = .u) (h : EvI P N m ic ρ' H Q) : EvI P N m ic ρ H Q :=
  fun c hc ro hf b D σ w a hm r ar mk hb => h c hc ro hf b D σ w a hm r (ar.weak hw) mk hb

theorem EvI.keep (ks : List Nat) {ic : ICode} {ρ : Env} {H : Heap} {Q : Exit → Env → Heap → Prop} (h : EvI P N m ic (keepEnv ks ρ) H Q) : EvI P N m ic ρ H Q :=
  EvI.weak (keepEnv_get ks ρ) h

def thenQ (K : Env → Heap → Prop) (Q : Exit → Env → Heap → Prop) : Exit → Env → Heap → Prop
  | .normal, ρ, H => K ρ H
  | e, ρ, H => Q e ρ H

def blockQ (id : Nat) (Q : Exit → Env → Heap → Prop) : Exit → Env → Heap → Prop
  | .exit i, ρ, H => if i = id then Q .normal ρ H else Q (.exit i) ρ H
  | e, ρ, H => Q e ρ H

theorem Eh {ρ : Env} {H : Heap} {Q : Exit → Env → Heap → Prop} (h : Q .normal ρ H) : EvI P N m .skip ρ H Q := by
  intro c hc ro hf b D σ w a hm r ar mk hb
  cases c <;> simp only [compC] at hc <;> first
    | exact wpIn_skip ⟨ρ, H, σ, D, h, r, ar, mk, StepM.refl _ _ _ _ hm⟩
    | (exfalso; (repeat' split at hc) <;> cases hc)

theorem Ei {id : Nat} {ρ : Env} {H : Heap} {Q : Exit → Env → Heap → Prop} (h : Q (.exit id) ρ H) : EvI P N m (.exit id) ρ H Q := by
  intro c hc ro hf b D σ w a hm r ar mk hb
  cases c <;> simp only [compC] at hc <;> first
    | (cases hc; exact wpIn_exit ⟨ρ, H, σ, D, h, r, ar, mk, StepM.refl _ _ _ _ hm⟩)
    | (exfalso; (repeat' split at hc) <;> cases hc)

theorem Eg {ρ : Env} {H : Heap} {Q : Exit → Env → Heap → Prop} (h : Q .ret ρ H) : EvI P N m .ret ρ H Q := by
  intro c hc ro hf b D σ w a hm r ar mk hb
  cases c <;> simp only [compC] at hc <;> first
    | exact wpIn_ret ⟨ρ, H, σ, D, h, r, ar, mk, StepM.refl _ _ _ _ hm⟩
    | (exfalso; (repeat' split at hc) <;> cases hc)

theorem Ee {x y : ICode} {ρ : Env} {H : Heap} {Q : Exit → Env → Heap → Prop} (h : EvI P N m x ρ H (thenQ (fun ρ' H' => EvI P N m y ρ' H' Q) Q)) : EvI P N m (.seq x y) ρ H Q := by
  intro c hc ro hf b D σ w a hm r ar mk hb
  cases c <;> simp only [compC] at hc
  case seq p q =>
    split at hc
    · rename_i x' y' h1 h2
      cases hc
      refine wpIn_seq (wpIn_mono (h p h1 ro (fl_l hf) b D σ w a hm r ar mk hb) ?_)
      rintro e a' w' ⟨ρ', H', σ', D', hq, hr, har, hk, hs⟩
      cases e with
      | normal =>
        refine wpIn_mono (hq q h2 ro (fl_r hf) b D' σ' w' a' hs.len hr har hk (Nat.le_trans hb hs.size)) ?_
        rintro e2 a2 w2 ⟨ρ2, H2, σ2, D2, hq2, hr2, har2, hk2, hs2⟩
        exact ⟨ρ2, H2, σ2, D2, hq2, hr2, har2, hk2, hs.trans' hs2 (Nat.le_refl _)⟩
      | _ => exact ⟨ρ', H', σ', D', hq, hr, har, hk, hs⟩
    · cases hc
  all_goals (exfalso; (repeat' split at hc) <;> cases hc)

theorem ei_cond {c : Opd} {x y : ICode} {ρ : Env} {H : Heap} {Q : Exit → Env → Heap → Prop} {t : Bool} (hcv : c.ev ρ = .b t) (ht : t = true → EvI P N m x ρ H Q) (hf' : t = false → EvI P N m y ρ H Q) : EvI P N m (.cond c x y) ρ H Q := by
  intro k hc ro hf b D σ w a hm r ar mk hb
  cases k <;> simp only [compC] at hc
  case cond cc p q =>
    split at hc
    · rename_i c' x' y' h1 h2 h3
      cases hc
      have hr := opd_rel ar h1
      rw [hcv] at hr
      generalize hq : a.eval cc = z at hr
      cases hr
      refine wpIn_cond_split hq (fun h => ht h p h2 ro (fl_l hf) b D σ w a hm r ar mk hb) (fun h => hf' h q h3 ro (fl_r hf) b D σ w a hm r ar mk hb)
    · cases hc
  all_goals (exfalso; (repeat' split at hc) <;> cases hc)

theorem Ef {id : Nat} {bd : ICode} {ρ : Env} {H : Heap} {Q : Exit → Env → Heap → Prop} (h : EvI P N m bd ρ H (blockQ id Q)) : EvI P N m (.block id bd) ρ H Q := by
  intro k hc ro hf b D σ w a hm r ar mk hb
  cases k <;> simp only [compC] at hc
  case block id' p =>
    split at hc
    · rename_i b' h1
      cases hc
      refine wpIn_block (wpIn_mono (h p h1 ro hf b D σ w a hm r ar mk hb) ?_)
      rintro e a' w' ⟨ρ', H', σ', D', hq, hr, har, hk, hs⟩
      cases e with
      | exit i =>
        simp only [blockQ] at hq
        simp only [Exit.inBlock]
        split
        · rename_i hi; rw [if_pos hi] at hq; exact ⟨ρ', H', σ', D', hq, hr, har, hk, hs⟩
        · rename_i hi; rw [if_neg hi] at hq; exact ⟨ρ', H', σ', D', hq, hr, har, hk, hs⟩
      | _ => exact ⟨ρ', H', σ', D', hq, hr, har, hk, hs⟩
    · cases hc
  all_goals (exfalso; (repeat' split at hc) <;> cases hc)

theorem wp_loop_n {F : Fence} {q : Nat} {c : Code} {Q : Exit → Act → World → Prop} (J : Nat → Act → World → Prop) {n : Nat} {a : Act} {w : World} (h₀ : J n a w)
    (round : ∀ n a w, J n a w → c.wpIn F q P (Exit.then (fun a' w' => ∃ m, m < n ∧ J m a' w') Q) a w) : (Code.loop c).wpIn F q P Q a w := by
  intro b k cs hro hb hr
  have key : ∀ n a w, J n a w → ∃ e a' w', Q e a' w' ∧ ArrivesIn (Machine.fenced P F) P (lone (b.atR a (.code c :: .inLoop c :: k)) cs w) b k cs e a' w' := by
    intro n
    induction n using Nat.strongRecOn with
    | _ n ih =>
      intro a w hI
      obtain ⟨e, a₁, w₁, hq, harr⟩ := round n a w hI b (.inLoop c :: k) cs hro hb hr
      cases e with
      | normal =>
        obtain ⟨m, hlt, hI₁⟩ := hq
        obtain ⟨e₂, a₂, w₂, hq₂, harr₂⟩ := ih m hlt a₁ w₁ hI₁
        exact ⟨e₂, a₂, w₂, hq₂, .of_steps (StepsIn.trans harr (.one (fenced_calm hb hr rfl) stepR_inLoop)) harr₂⟩
      | exit id => exact ⟨_, a₁, w₁, hq, .pass (x := .inLoop c) rfl (fun _ _ => .inl (by simp)) harr⟩
      | goto l => exact ⟨_, a₁, w₁, hq, .pass (x := .inLoop c) rfl (fun _ _ => .inl (by simp)) harr⟩
      | ret => exact ⟨_, a₁, w₁, hq, .pass (x := .inLoop c) rfl (fun _ _ => .inl (by simp)) harr⟩
      | panic ch => exact ⟨_, a₁, w₁, hq, .pass (x := .inLoop c) rfl (fun _ _ => .inl (by simp)) harr⟩
      | outgrown => exact ⟨_, a₁, w₁, hq, .pass (x := .inLoop c) rfl (fun _ _ => .inl (by simp)) harr⟩
  obtain ⟨e, a', w', hq, harr⟩ := key _ a w h₀
  exact ⟨e, a', w', hq, .of_steps (.one (fenced_calm hb hr rfl) stepR_loop) harr⟩

/-- What is left behind a label. -/
def findI : ICode → Nat → Option ICode
  | .seq a b, l => match findI a l with
    | some r => some (.seq r b)
    | none => findI b l
  | .label l', l => if l' == l then some .skip else none
  | _, _ => none
section
variable {b : Frame} {a : Act} {k : List Item} {cs : List Frame} {w : World}
end
/-- A scope: at each jump to a label of its, what holds there, with a number that falls. -/
def jumpC (c : Code) (J : Nat → Act → World → Prop) (Q : Exit → Act → World → Prop) : Exit → Act → World → Prop
  | .goto l, a, w => (∃ r, findLabel c l = some r) ∧ J l a w
  | e, a, w => Q e a w
def jumpQ (ic : ICode) (I : Nat → Env → Heap → Prop) (Q : Exit → Env → Heap → Prop) : Exit → Env → Heap → Prop
  | .goto l, ρ, H => (∃ r, findI ic l = some r) ∧ I l ρ H
  | e, ρ, H => Q e ρ H
/-- A loop: what holds at a round's head, with a number that falls. -/
theorem ei_loop {bd : ICode} {ρ : Env} {H : Heap} {Q : Exit → Env → Heap → Prop} (I : Nat → Env → Heap → Prop) {n : Nat} (h0 : I n ρ H)
    (hr : ∀ n ρ H, I n ρ H → EvI P N m bd ρ H (thenQ (fun ρ' H' => ∃ k, k < n ∧ I k ρ' H') Q)) : EvI P N m (.loop bd) ρ H Q := by
  intro k hc ro hf b D σ w a hm r ar mk hb
  cases k <;> simp only [compC] at hc
  case loop p =>
    split at hc
    · rename_i b' h1
      cases hc
      refine wp_loop_n (fun n a' w' => ∃ ρ' H' σ' D', I n ρ' H' ∧ Rel σ' H' w' ∧ ARel N D' σ' ρ' a' ∧ Mk b D' σ' H' w' ∧ StepM m σ H w σ' H' w') (n := n) ⟨ρ, H, σ, D, h0, r, ar, mk, StepM.refl _ _ _ _ hm⟩ ?_
      rintro n a' w' ⟨ρ', H', σ', D', hI, hr', har', hk', hs'⟩
      refine wpIn_mono (hr n ρ' H' hI p h1 ro hf b D' σ' w' a' hs'.len hr' har' hk' (Nat.le_trans hb hs'.size)) ?_
      rintro e a2 w2 ⟨ρ2, H2, σ2, D2, hq2, hr2, har2, hk2, hs2⟩
      cases e with
      | normal =>
        obtain ⟨k, hk, hI2⟩ := hq2
        exact ⟨k, hk, ρ2, H2, σ2, D2, hI2, hr2, har2, hk2, hs'.trans' hs2 (Nat.le_refl _)⟩
      | _ => exact ⟨ρ2, H2, σ2, D2, hq2, hr2, har2, hk2, hs'.trans' hs2 (Nat.le_refl _)⟩
    · cases hc
  all_goals (exfalso; (repeat' split at hc) <;> cases hc)

theorem ei_reg {its : List RItem} {ρ : Env} {H : Heap} {Q : Exit → Env → Heap → Prop} (h : EvItems P its ρ H (fun ρ' H' => Q .normal ρ' H')) : EvI P N m (.reg its) ρ H Q := by
  intro k hc ro hf b D σ w a hm r ar mk hb
  cases k <;> simp only [compC] at hc
  case region id ops draw =>
    split at hc
    · cases hc
    · rename_i its' hits
      cases draw with
      | true => simp only [if_true] at hc; split at hc <;> cases hc
      | false =>
        simp only [Bool.false_eq_true, if_false] at hc
        cases hc
        obtain ⟨h1, h2⟩ := itemsC_spec hits
        refine wpIn_region (items_sound (N := N) (its := its) (σ := σ) (H := H) (ρ := ρ) (by simpa using h1) (fun j i it hj hi => ?_) r ar h ?_)
        · have hji : i = j ∧ j < ops.size := by
            obtain ⟨hl, e⟩ := List.getElem?_eq_some_iff.1 hj
            simp at hl e
            exact ⟨e.symm, hl⟩
          obtain ⟨rfl, hlt⟩ := hji
          obtain ⟨it', h3, h4⟩ := h2 i ops[i] (by simp [hlt])
          rw [hi] at h3; cases h3
          exact ⟨_, Array.getElem?_eq_getElem hlt, h4⟩
        · intro ρ' H' σ' a' w' k1 k2 k3 k4
          exact ⟨ρ', H', σ', D, k1, k2, k3, mk.step k4, (StepM.refl m σ H w hm).trans' k4 hm⟩
  all_goals (exfalso; (repeat' split at hc) <;> cases hc)

theorem ei_dreg {its : List RItem} {ord ms : List Nat} {ρ : Env} {H : Heap} {Q : Exit → Env → Heap → Prop} (h : EvD P (preOf ms) its ord [] ρ H (fun ρ' H' => Q .normal ρ' H')) : EvI P N m (.dreg its ord ms) ρ H Q := by
  intro k hc ro hf b D σ w a hm r ar mk hb
  cases k <;> simp only [compC] at hc
  case region id ops draw =>
    split at hc
    · cases hc
    · rename_i its' hits
      cases draw with
      | false => simp only [Bool.false_eq_true, if_false] at hc; cases hc
      | true =>
        simp only [if_true] at hc
        split at hc
        · rename_i hd
          cases hc
          simp only [Bool.and_eq_true] at hd
          exact region_draw (dstat hits hd.2) hd.1 r ar h (fun ρ' H' σ' a' w' k1 k2 k3 k4 => ⟨ρ', H', σ', D, k1, k2, k3, mk.step k4, (StepM.refl m σ H w hm).trans' k4 hm⟩)
        · cases hc
  all_goals (exfalso; (repeat' split at hc) <;> cases hc)

-- functions
inductive RV where
  | t (n : Nat)
  | c1 (n : Nat)
  | cn (n k : Nat)

structure IFunc where
  n : Nat
  ar : Nat
  body : ICode
  res : List RV

def rvC (P : Program) : List ResultVar → Option (List RV)
  | [] => some []
  | .tmp t :: r => match rvC P r with
    | some l => some (.t t :: l)
    | none => none
  | .cell a t :: r => match P.underlying t, P.info? t, rvC P r with
    | some d, some i, some l => some ((if isAggD d then .cn a i.size else .c1 a) :: l)
    | _, _, _ => none

def compF (P : Program) (ar : Nat) (fn : Func) : Option IFunc :=
  match fn.body with
  | some b => match compC P fn.ntmps b, rvC P fn.results.toList with
    | some ic, some rs => if fn.name == "runtime.NumGoroutine" || decide (fn.ntmps < ar) then none else some ⟨fn.ntmps, ar, ic, rs⟩
    | _, _ => none
  | none => none

def RV.val (ρ : Env) (H : Heap) : RV → Option Val
  | .t n => some (ρ.get n)
  | .c1 n => ((IOp.ld1 (.t n)).step (Opd.ev ρ) H).map (·.1)
  | .cn n k => ((IOp.ldn k (.t n)).step (Opd.ev ρ) H).map (·.1)

def resL (ρ : Env) (H : Heap) : List RV → Option (List Val)
  | [] => some []
  | x :: r => match x.val ρ H, resL ρ H r with
    | some v, some l => some (v :: l)
    | _, _ => none

def resV (ρ : Env) (H : Heap) (rs : List RV) : Option Val :=
  match resL ρ H rs with
  | some [v] => some v
  | some l => some (.tup l)
  | none => none

def initEnv : Nat → List Val → Env
  | _, [] => []
  | k, v :: r => (k, v) :: initEnv (k + 1) r

theorem initEnv_get : ∀ (vs : List Val) (k t : Nat), (initEnv k vs).get t = if k ≤ t then (vs[t - k]?).getD .u else .u
  | [], k, t => by simp [initEnv, Env.get]
  | v :: r, k, t => by
    simp only [initEnv, Env.get]
    by_cases h : k = t
    · subst h; simp
    · rw [if_neg h, initEnv_get r (k + 1) t]
      by_cases h2 : k ≤ t
      · rw [if_pos h2, if_pos (by omega)]
        obtain ⟨m, rfl⟩ : ∃ m, t = k + 1 + m := ⟨t - (k + 1), by omega⟩
        rw [show k + 1 + m - k = m + 1 by omega, show k + 1 + m - (k + 1) = m by omega]
        simp
      · rw [if_neg h2, if_neg (by omega)]

theorem init_rel {σ : Names} {vs : List Val} {cs : Array Value} (h : LRel σ vs cs) (hn : cs.size ≤ N) : ARel N [] σ (initEnv 0 vs) { tmps := cs ++ Array.replicate (N - cs.size) undef, defers := [] } := by
  refine ⟨by simp; omega, rfl, fun t => ?_⟩
  rw [initEnv_get]
  simp only [Nat.zero_le, if_true, Nat.sub_zero]
  cases hv : vs[t]? with
  | none => exact .u _
  | some v =>
    have ht : t < vs.length := (List.getElem?_eq_some_iff.1 hv).1
    have htc : t < cs.size := by rw [← h.1]; exact ht
    have : (cs ++ Array.replicate (N - cs.size) undef).getD t undef = cs[t] := by
      rw [Array.getD_eq_getD_getElem?, Array.getElem?_append_left htc, Array.getElem?_eq_getElem htc]; rfl
    rw [this]
    exact h.2 t v _ hv (Array.getElem?_eq_getElem htc)

theorem rv_run {σ : Names} {H : Heap} {w : World} (r : Rel σ H w) {ρ : Env} {a : Act} (ar : ARel N Df σ ρ a) : ∀ {rs : List ResultVar} {vs : List RV} {l : List Val}, rvC P rs = some vs → resL ρ H vs = some l →
    ∃ cs : List Value, (rs.mapM (fun | .tmp t => pure (a.tmps.getD t undef) | .cell ad t => do loadVar t (← asAddr (a.tmps.getD ad undef)) : ResultVar → Sem Value)).run P w = .ok cs w ∧ l.length = cs.length ∧
      ∀ (j : Nat) (v : Val) (c : Value), l[j]? = some v → cs[j]? = some c → VRel σ v c
  | [], vs, l, h, hl => by cases h; cases hl; exact ⟨[], rfl, rfl, by simp⟩
  | .tmp t :: rs, vs, l, h, hl => by
    simp only [rvC] at h
    split at h
    · rename_i vs' h1
      cases h
      simp only [resL, RV.val] at hl
      split at hl
      · rename_i v l' h2 h3
        cases h2; cases hl
        obtain ⟨cs, g1, g2, g3⟩ := rv_run r ar h1 h3
        refine ⟨a.tmps.getD t undef :: cs, ?_, by simp [g2], fun j v c hj hc => ?_⟩
        · simp only [List.mapM_cons, Sem.run_bind, Sem.run_pure, Result.andThen_ok, g1]
        · cases j with
          | zero =>
            simp at hj hc; subst hj; subst hc
            have := ar.vals t
            rwa [Array.getD_eq_getD_getElem?] at this
          | succ j => exact g3 j v c (by simpa using hj) (by simpa using hc)
      · cases hl
    · cases h
  | .cell ad t :: rs, vs, l, h, hl => by
    simp only [rvC] at h
    split at h
    · rename_i d i vs' hd hi h1
      cases h
      simp only [resL] at hl
      split at hl
      · rename_i v l' h2 h3
        cases hl
        obtain ⟨cs, g1, g2, g3⟩ := rv_run r ar h1 h3
        have key : ∃ c, VRel σ v c ∧ (do loadVar t (← asAddr (a.tmps.getD ad undef)) : Sem Value).run P w = .ok c w := by
          have hpr := ar.vals ad
          split at h2
          · rename_i hag
            simp only [RV.val, Option.map_eq_some_iff] at h2
            obtain ⟨⟨v', H'⟩, h4, h5⟩ := h2
            cases h5
            simp only [IOp.step, Opd.ev] at h4
            split at h4
            · rename_i id off hp
              rw [hp] at hpr
              have fin : ∀ (o : AObj) (cc : List Val), H[id]? = some o → cellsOfObj o = some cc → off + i.size ≤ cc.length → (Val.agg ((cc.drop off).take i.size)) = v' → ∃ c, VRel σ v' c ∧ (do loadVar t (← asAddr (a.tmps.getD ad undef)) : Sem Value).run P w = .ok c w := by
                intro o cc k1 k2 k3 k4
                generalize hq : a.tmps.getD ad undef = q at hpr
                cases hpr with
                | p hs =>
                  rename_i lo
                  obtain ⟨_, m2⟩ := obj_cells r hs k1 k2
                  obtain ⟨ds, n1, n2, n3, _⟩ := window_rel m2 k3
                  have hrun := run_loadCells_list (P := P) w _ ds n2
                  rw [n1] at hrun
                  refine ⟨.agg ds.toArray, by rw [← k4]; exact .agg (by simp [n1]; omega) (fun j v x hj hx => n3 j v x hj (by simpa using hx)), ?_⟩
                  simp [asAddr, loadVar, run_isAgg' hd, hag, run_sizeOf' hi, hrun]
              split at h4
              · rename_i cc hc
                split at h4
                · cases h4; exact fin _ cc hc rfl (by assumption) rfl
                · cases h4
              · rename_i cc hc
                split at h4
                · cases h4; exact fin _ cc hc rfl (by assumption) rfl
                · cases h4
              · cases h4
            · cases h4
          · rename_i hag
            simp only [RV.val, Option.map_eq_some_iff] at h2
            obtain ⟨⟨v', H'⟩, h4, h5⟩ := h2
            cases h5
            simp only [IOp.step, Opd.ev] at h4
            split at h4
            · rename_i id off hp
              rw [hp] at hpr
              have fin : ∀ (o : AObj) (cc : List Val), H[id]? = some o → cellsOfObj o = some cc → cc[off]? = some v' → ∃ c, VRel σ v' c ∧ (do loadVar t (← asAddr (a.tmps.getD ad undef)) : Sem Value).run P w = .ok c w := by
                intro o cc k1 k2 k3
                generalize hq : a.tmps.getD ad undef = q at hpr
                cases hpr with
                | p hs =>
                  obtain ⟨_, m2⟩ := obj_cells r hs k1 k2
                  obtain ⟨x, n1, n2, _⟩ := m2 off v' k3
                  exact ⟨x, n2, by simp [asAddr, loadVar, run_isAgg' hd, hag, n1]⟩
              split at h4
              · rename_i cc hc
                obtain ⟨u, hu, h6⟩ := Option.map_eq_some_iff.1 h4
                cases h6
                exact fin _ cc hc rfl hu
              · rename_i cc hc
                obtain ⟨u, hu, h6⟩ := Option.map_eq_some_iff.1 h4
                cases h6
                exact fin _ cc hc rfl hu
              · cases h4
            · cases h4
        obtain ⟨c, k1, k2⟩ := key
        refine ⟨c :: cs, ?_, by simp [g2], fun j v c' hj hc => ?_⟩
        · simp only [List.mapM_cons, Sem.run_bind, Result.andThen_ok, Sem.run_pure] at k2 ⊢
          rw [k2]
          simp only [Result.andThen_ok, g1]
        · cases j with
          | zero => simp at hj hc; subst hj; subst hc; exact k1
          | succ j => exact g3 j v c' (by simpa using hj) (by simpa using hc)
      · cases hl
    · cases h

theorem Rel.unnamed {σ : Names} {H : Heap} {w : World} (r : Rel σ H w) {b : Nat} {ob : Obj} (hb : w.heap[b]? = some (.deferred (some []))) (hn : ∀ id l, σ id = some l → (Live H id ∨ Ro H id) → l.blk ≠ b) : Rel σ H (w.putObj b ob) := by
  have hoth : ∀ bl, bl ≠ b → (w.putObj b ob).heap[bl]? = w.heap[bl]? := by
    intro bl h
    simp [World.putObj, Ne.symm h]
  have hsz : (w.putObj b ob).heap.size = w.heap.size := by simp [World.putObj]
  refine ⟨⟨r.dom, fun id l o hs ho => ?_, fun id l hs => by rw [hsz]; exact r.blk id l hs, r.inj⟩, fun x hx => ?_⟩
  · by_cases hk : o = .dead
    · subst hk; trivial
    · refine (r.obj id l o hs ho).congr (hoth _ (hn id l hs ?_))
      cases o with
      | ro c => exact .inr ⟨_, ho, rfl⟩
      | dead => exact absurd rfl hk
      | _ => exact .inl ⟨_, ho, rfl⟩
  · obtain ⟨h1, h2, h3⟩ := r.fix x hx
    refine ⟨by rw [hsz]; exact h1, fun j v hj => ?_, h3⟩
    by_cases e : x.1 = b
    · have := h2 j v hj
      rw [e] at this
      simp [World.cell?, hb] at this
    · rw [cell_congr (hoth _ e)]; exact h2 j v hj
theorem leave_all {fn : Func} {tmps : Array Value} {R : Ending → World → Prop} {σ σ' : Names} {H H' : Heap} {w : World} : ∀ (D : List Deferred) (w' : World), Rel σ' H' w' → Mk w.heap.size D σ' H' w' → StepM m σ H w σ' H' w' →
    (∀ w'', Rel σ' H' w'' → StepM m σ H w σ' H' w'' → ∃ v, (results fn tmps).run P w'' = .ok v w'' ∧ R (.returned v) w'') → LeavesInM (Fz none) 0 P fn tmps R D .returning w'
  | [], w', r, _, s, h => h w' r s
  | d :: D, w', r, mk, s, h => by
    obtain ⟨b, h1, h2, h3, h4⟩ := mk.at_ d (by simp)
    have hap := List.pairwise_cons.1 mk.apart
    have hsz : (w'.putObj b (.deferred none)).heap.size = w'.heap.size := by simp [World.putObj]
    have hoth : ∀ bl, bl ≠ b → (w'.putObj b (.deferred none)).heap[bl]? = w'.heap[bl]? := by
      intro bl h
      simp [World.putObj, Ne.symm h]
    refine ⟨by simp, .inl ⟨b, _, by rw [h1], run_takeDeferred h3, ?_⟩⟩
    refine leave_all D _ (r.unnamed h3 h4) ⟨fun d' hd' => ?_, hap.2⟩ ⟨s.ext, s.len, by rw [hsz]; exact s.size, fun bl hb hn => ?_, s.fresh, s.live, s.rest, s.ro⟩ h
    · obtain ⟨b', g1, g2, g3, g4⟩ := mk.at_ d' (by simp [hd'])
      have hne : b' ≠ b := by
        rintro rfl
        exact hap.1 d' hd' (by rw [h1, g1])
      exact ⟨b', g1, g2, by rw [hoth _ hne]; exact g3, g4⟩
    · rw [hoth bl (by omega)]; exact s.keep bl hb hn

def FPost (rs : List RV) (Q : Val → Heap → Prop) : Exit → Env → Heap → Prop
  | .normal, ρ, H => ∃ v, resV ρ H rs = some v ∧ Q v H
  | .ret, ρ, H => ∃ v, resV ρ H rs = some v ∧ Q v H
  | _, _, _ => False

/-- A call that is entered. -/
def SoundE (P : Program) (m : Nat) (f : FuncId) (vs : List Val) (H : Heap) (Q : Val → Heap → Prop) : Prop :=
  m ≤ H.length ∧ ∀ (σ : Names) (w : World) (cs : Array Value), Rel σ H w → LRel σ vs cs →
    (callFunc f cs).run P w = .ok (.enter f cs) w ∧ Calls P f cs w (PostM m σ H w Q)
theorem SoundE.toM {P : Program} {m : Nat} {f : FuncId} {vs : List Val} {H : Heap} {Q : Val → Heap → Prop} (h : SoundE P m f vs H Q) : SoundM P m f vs H Q :=
  ⟨h.1, fun σ w cs r l => .inl ⟨f, h.2 σ w cs r l⟩⟩
theorem SoundE.mono {P : Program} {m : Nat} {f : FuncId} {vs : List Val} {H : Heap} {Q R : Val → Heap → Prop} (h : SoundE P m f vs H Q) (hq : ∀ v H', Q v H' → R v H') : SoundE P m f vs H R :=
  ⟨h.1, fun σ w cs r l => ⟨(h.2 σ w cs r l).1, (h.2 σ w cs r l).2.mono fun e w' ⟨v, c, H', σ', a, b, c', d⟩ => ⟨v, c, H', σ', a, b, hq _ _ c', d⟩⟩⟩

/-- A FUNCTION, BY ITS ABSTRACT CODE. -/
theorem sound_funcE {f : FuncId} {fn : Func} {F : IFunc} (hf : P.funcs[f]? = some fn) {ar : Nat} (hF : compF P ar fn = some F) {vs : List Val} (hvs : vs.length = F.ar) {H : Heap} {Q : Val → Heap → Prop}
    (hm : m ≤ H.length) (h : EvI P F.n m F.body (initEnv 0 vs) H (FPost F.res Q)) : SoundE P m f vs H Q := by
  unfold compF at hF
  split at hF
  · rename_i b hb
    split at hF
    · rename_i ic rs hic hrs
      split at hF
      · cases hF
      · rename_i hcond
        cases hF
        simp only [Bool.or_eq_true, decide_eq_true_eq, not_or] at hcond
        refine ⟨hm, fun σ w cs r l => ?_⟩
        refine ⟨?_, ?_⟩
        · have hname : ¬ fn.name = "runtime.NumGoroutine" := by simpa using hcond.1
          have hbn : ¬ fn.body = none := by rw [hb]; simp
          simp [callFunc, hf, hname, hbn]
        · refine callsIn_wide.1 (callsIn_of_wp_marks (F := Fz none) (n := 0) hf hb trivial ?_)
          have hsz : cs.size ≤ fn.ntmps := by
            have := l.1
            simp only at hvs
            omega
          refine wpIn_mono (h b hic none (.inl rfl) w.heap.size [] σ w _ hm r (init_rel l hsz) Mk.nil (Nat.le_refl _)) ?_
          rintro e a' w0 ⟨ρ', H', σ', D', hq, hr0, har, hk0, hs0⟩
          have fin : (∃ v, resV ρ' H' rs = some v ∧ Q v H') → LeavesInM (Fz none) 0 P fn a'.tmps (PostM m σ H w Q) a'.defers .returning w0 := by
            rintro ⟨v, hv, hQ⟩
            rw [har.defers]
            refine leave_all D' w0 hr0 hk0 hs0 ?_
            intro w' hr hs
            unfold resV at hv
            have key : ∀ lv, resL ρ' H' rs = some lv → ∃ cs : List Value, (fn.results.mapM (fun | .tmp t => pure (a'.tmps.getD t undef) | .cell ad t => do loadVar t (← asAddr (a'.tmps.getD ad undef)) : ResultVar → Sem Value)).run P w' = .ok cs.toArray w' ∧ lv.length = cs.length ∧
                ∀ (j : Nat) (v : Val) (c : Value), lv[j]? = some v → cs[j]? = some c → VRel σ' v c := by
              intro lv hlv
              obtain ⟨cs, g1, g2, g3⟩ := rv_run (P := P) (w := w') hr har hrs hlv
              refine ⟨cs, ?_, g2, g3⟩
              rw [Array.mapM_eq_mapM_toList]
              simp only [Sem.run_map, g1, Result.andThen_ok]
            split at hv
            · rename_i u hl
              obtain rfl : u = v := by simpa using hv
              obtain ⟨cs, g1, g2, g3⟩ := key _ hl
              obtain ⟨c, rfl⟩ : ∃ c, cs = [c] := by
                cases cs with
                | nil => simp at g2
                | cons c t => cases t with
                  | nil => exact ⟨c, rfl⟩
                  | cons d t => simp at g2
              refine ⟨c, ?_, u, c, H', σ', rfl, g3 0 u c rfl rfl, hQ, hr, hs⟩
              have h9 : (results fn a'.tmps).run P w' = (Result.ok [c].toArray w').andThen (fun vs w' => (pure (if h : vs.size = 1 then vs[0] else .tuple vs) : Sem Value).run P w') := by
                rw [← g1]; exact Sem.run_bind ..
              rw [h9]
              simp
            · rename_i lv hne hl
              cases hv
              obtain ⟨cs, g1, g2, g3⟩ := key _ hl
              have hne1 : cs.toArray.size ≠ 1 := by
                intro h1
                simp at h1
                rw [← g2] at h1
                obtain ⟨x, rfl⟩ := List.length_eq_one_iff.1 h1
                exact hne x rfl
              refine ⟨.tuple cs.toArray, ?_, .tup lv, .tuple cs.toArray, H', σ', rfl, .tup (by simpa using g2) (fun j v c hj hc => g3 j v c hj (by simpa using hc)), hQ, hr, hs⟩
              have h9 : (results fn a'.tmps).run P w' = (Result.ok cs.toArray w').andThen (fun vs w' => (pure (if h : vs.size = 1 then vs[0] else .tuple vs) : Sem Value).run P w') := by
                rw [← g1]; exact Sem.run_bind ..
              rw [h9]
              simp only [Result.andThen_ok, Sem.run_pure]
              rw [dif_neg hne1]
            · cases hv
          cases e with
          | normal => exact fin hq
          | ret => exact fin hq
          | _ => exact hq.elim
    · cases hF
  · cases hF
theorem sound_func {f : FuncId} {fn : Func} {F : IFunc} (hf : P.funcs[f]? = some fn) {ar : Nat} (hF : compF P ar fn = some F) {vs : List Val} (hvs : vs.length = F.ar) {H : Heap} {Q : Val → Heap → Prop}
    (hm : m ≤ H.length) (h : EvI P F.n m F.body (initEnv 0 vs) H (FPost F.res Q)) : SoundM P m f vs H Q := (sound_funcE hf hF hvs hm h).toM
end Go.Proofs.YtmdilnelogechaaDoor.Ev
/- What the abstract runs are used by: calls that hang on no object, closed runs, contracts from outside. -/
namespace Go.Proofs.YtmdilnelogechaaDoor.Ev
open Go

mutual
/-- A value that names no object. -/
def Val.closed : Val → Bool
  | .u => true
  | .b _ => true
  | .i _ _ => true
  | .s _ => true
  | .nilp => true
  | .p _ _ => false
  | .nils => true
  | .sl _ _ _ _ => false
  | .nilm => true
  | .m _ => false
  | .nilf => true
  | .fn _ a b => closedL a && closedL b
  | .nili => true
  | .ifc _ v => v.closed
  | .agg cs => closedL cs
  | .tup vs => closedL vs
  | .yld _ => false
def closedL : List Val → Bool
  | [] => true
  | v :: r => v.closed && closedL r
end

theorem closedL_get : ∀ {l : List Val} {j : Nat} {v : Val}, closedL l = true → l[j]? = some v → v.closed = true
  | [], _, _, _, h => by simp at h
  | x :: r, 0, v, h, hj => by
    simp [closedL] at h hj
    subst hj; exact h.1
  | x :: r, j + 1, v, h, hj => by
    simp [closedL] at h hj
    exact closedL_get h.2 hj

theorem VRel.closed {σ τ : Names} {v : Val} {c : Value} (h : VRel σ v c) (hc : v.closed = true) : VRel τ v c := by
  induction h with
  | u c => exact .u c
  | b x => exact .b x
  | i k n => exact .i k n
  | s x => exact .s x
  | nilp => exact .nilp
  | p h => simp [Val.closed] at hc
  | nils => exact .nils
  | sl h hl hs ho => simp [Val.closed] at hc
  | nilm => exact .nilm
  | m h => simp [Val.closed] at hc
  | nilf => exact .nilf
  | fn f ha hb _ _ ra rb =>
    simp [Val.closed] at hc
    exact .fn f ha hb (fun j v c hj hcj => ra j v c hj hcj (closedL_get hc.1 hj)) (fun j v c hj hcj => rb j v c hj hcj (closedL_get hc.2 hj))
  | nili => exact .nili
  | ifc t _ ih => simp [Val.closed] at hc; exact .ifc t (ih hc)
  | agg ha _ ra => simp [Val.closed] at hc; exact .agg ha (fun j v c hj hcj => ra j v c hj hcj (closedL_get hc hj))
  | tup ha _ ra => simp [Val.closed] at hc; exact .tup ha (fun j v c hj hcj => ra j v c hj hcj (closedL_get hc hj))
  | yld h => simp [Val.closed] at hc

theorem LRel.closed {σ τ : Names} {l : List Val} {c : Array Value} (h : LRel σ l c) (hc : closedL l = true) : LRel τ l c :=
  ⟨h.1, fun j v x hj hx => (h.2 j v x hj hx).closed (closedL_get hc hj)⟩

variable {P : Program}

/-- A call that hangs on no object comes to the same beside any, and leaves them. -/
theorem sound_pure {f : FuncId} {vs : List Val} {R : Val → Prop} (hvs : closedL vs = true) (hR : ∀ v, R v → v.closed = true) (h : SoundCall P f vs [] (fun v _ => R v)) (H : Heap) :
    SoundCall P f vs H (fun v H' => R v ∧ H' = H) := by
  refine ⟨Nat.le_refl _, fun σ w cs r l => ?_⟩
  have r0 : Rel (fun _ => none) [] w := by
    refine ⟨⟨?_, ?_, ?_, ?_⟩, fun x hx => ⟨(r.fix x hx).1, (r.fix x hx).2.1, fun id l h => by cases h⟩⟩
    · intro id l h; cases h
    · intro id l o h; cases h
    · intro id l h; cases h
    · intro x y lx ly h; cases h
  have key : ∀ e w', Post (fun _ => none) [] w (fun v _ => R v) e w' → Post σ H w (fun v H' => R v ∧ H' = H) e w' := by
    rintro e w' ⟨v, c, H', σ', rfl, hv, hq, hr, hs⟩
    have hold : ∀ bl, bl < w.heap.size → w'.heap[bl]? = w.heap[bl]? := fun bl hb => hs.keep bl hb (fun id l h => by cases h)
    refine ⟨v, c, H, σ, rfl, hv.closed (hR v hq), ⟨hq, rfl⟩, ⟨⟨r.dom, fun id l o a b => (r.obj id l o a b).congr (hold _ (r.blk id l a)), fun id l a => Nat.lt_of_lt_of_le (r.blk id l a) hs.size, r.inj⟩, fun x hx => ⟨Nat.lt_of_lt_of_le (r.fix x hx).1 hs.size, fun j v hj => by rw [cell_congr (hold x.1 (r.fix x hx).1)]; exact (r.fix x hx).2.1 j v hj, (r.fix x hx).2.2⟩⟩, ?_⟩
    exact { ext := fun _ _ => rfl, len := Nat.le_refl _, size := hs.size, keep := fun bl hb _ => hold bl hb, fresh := fun id l h1 h2 => .inr ⟨id, l, h1, h2, rfl⟩, live := fun _ _ h => h, rest := hs.rest, ro := fun id l h1 h2 => ⟨id, l, h1, h2, rfl⟩ }
  rcases h.2 _ w cs r0 (l.closed hvs) with ⟨g, h1, h2⟩ | ⟨c, w', h1, h2⟩
  · exact .inl ⟨g, h1, h2.mono key⟩
  · exact .inr ⟨c, w', h1, key _ _ h2⟩

theorem LRel.ints {σ : Names} {cs : Array Value} : ∀ {l : List (IntKind × Int)}, LRel σ (l.map fun x => .i x.1 x.2) cs → cs.toList = l.map fun x => .int x.1 x.2 := by
  intro l h
  apply List.ext_getElem?
  intro j
  have hl := h.1
  simp at hl
  by_cases hj : j < l.length
  · have h1 : (l.map fun x => Val.i x.1 x.2)[j]? = some (.i l[j].1 l[j].2) := by simp [hj]
    have h2 : cs[j]? = some (cs[j]'(by omega)) := Array.getElem?_eq_getElem _
    have := h.2 j _ _ h1 h2
    generalize cs[j]'(by omega) = q at *
    cases this
    simp [h2, hj]
  · rw [List.getElem?_eq_none (by simp; omega), List.getElem?_eq_none (by simp; omega)]

/-- A contract from outside, over whole numbers. -/
theorem sound_ints {f : FuncId} (hc : ∀ args w, (callFunc f args).run P w = .ok (.enter f args) w) {l : List (IntKind × Int)} {v : Val} {c : Value} (hv : ∀ σ, VRel σ v c)
    (h : ∀ w, Calls P f (l.map fun x => Value.int x.1 x.2).toArray w fun e w' => e = .returned c ∧ ∃ n, w' = { w with drawn := n }) (H : Heap) : SoundCall P f (l.map fun x => .i x.1 x.2) H (fun v' H' => v' = v ∧ H' = H) := by
  refine ⟨Nat.le_refl _, fun σ w cs r hl => ?_⟩
  have e : cs = (l.map fun x => Value.int x.1 x.2).toArray := by rw [← hl.ints]
  subst e
  refine .inl ⟨f, hc _ _, (h w).mono ?_⟩
  rintro e w' ⟨rfl, n, rfl⟩
  refine ⟨v, c, H, σ, rfl, hv σ, ⟨rfl, rfl⟩, r.drawn n, ?_⟩
  exact { ext := fun _ _ => rfl, len := Nat.le_refl _, size := Nat.le_refl _, keep := fun _ _ _ => rfl, fresh := fun id l hs hl => .inr ⟨id, l, hs, hl, rfl⟩, live := fun _ _ h => h, rest := ⟨rfl, rfl, rfl⟩, ro := fun id l hs hl => ⟨id, l, hs, hl, rfl⟩ }

/-- A contract from outside, over whole numbers, that asks what stands in the fixed blocks. -/
theorem sound_intsF {f : FuncId} (hc : ∀ args w, (callFunc f args).run P w = .ok (.enter f args) w) {l : List (IntKind × Int)} {v : Val} {c : Value} (hv : ∀ σ, VRel σ v c)
    (h : ∀ w, FixW w → Calls P f (l.map fun x => Value.int x.1 x.2).toArray w fun e w' => e = .returned c ∧ ∃ n, w' = { w with drawn := n }) (H : Heap) : SoundCall P f (l.map fun x => .i x.1 x.2) H (fun v' H' => v' = v ∧ H' = H) := by
  refine ⟨Nat.le_refl _, fun σ w cs r hl => ?_⟩
  have e : cs = (l.map fun x => Value.int x.1 x.2).toArray := by rw [← hl.ints]
  subst e
  refine .inl ⟨f, hc _ _, (h w (fun x hx => ⟨(r.fix x hx).1, (r.fix x hx).2.1⟩)).mono ?_⟩
  rintro e w' ⟨rfl, n, rfl⟩
  refine ⟨v, c, H, σ, rfl, hv σ, ⟨rfl, rfl⟩, r.drawn n, ?_⟩
  exact { ext := fun _ _ => rfl, len := Nat.le_refl _, size := Nat.le_refl _, keep := fun _ _ _ => rfl, fresh := fun id l hs hl => .inr ⟨id, l, hs, hl, rfl⟩, live := fun _ _ h => h, rest := ⟨rfl, rfl, rfl⟩, ro := fun id l hs hl => ⟨id, l, hs, hl, rfl⟩ }

/-- A law: what its row asks. -/
theorem law_calls {f : FuncId} (hc : ∀ args w, (callFunc f args).run P w = .ok (.enter f args) w) {m : Nat} {vs : List Val} {H : Heap} (h : SoundM P m f vs H (fun v _ => v = .b true)) (hro : ∀ id, ¬ Live H id)
    {σ : Names} {w : World} {cs : Array Value} (r : Rel σ H w) (l : LRel σ vs cs) :
    Calls P f cs w fun e w' => e = .returned (.bool true) ∧ w'.os = w.os ∧ w'.tape = w.tape ∧ w'.output = w.output ∧ w.heap.size ≤ w'.heap.size ∧ ∀ k, k < w.heap.size → w'.heap[k]? = w.heap[k]? := by
  have key : ∀ e w', PostM m σ H w (fun v _ => v = .b true) e w' → e = .returned (.bool true) ∧ w'.os = w.os ∧ w'.tape = w.tape ∧ w'.output = w.output ∧ w.heap.size ≤ w'.heap.size ∧ ∀ k, k < w.heap.size → w'.heap[k]? = w.heap[k]? := by
    rintro e w' ⟨v, c, H', σ', rfl, hv, rfl, hr, hs⟩
    cases hv
    exact ⟨rfl, hs.rest.1, hs.rest.2.1, hs.rest.2.2, hs.size, fun k hk => hs.keep k hk (fun id l _ hl => absurd hl (hro id))⟩
  rcases h.2 σ w cs r l with ⟨g, h1, h2⟩ | ⟨c, w', h1, _⟩
  · rw [hc] at h1
    cases h1
    exact h2.mono key
  · rw [hc] at h1
    cases h1

-- closed runs
def runItems (cl : FuncId → List Val → Heap → Option (Val × Heap)) : List RItem → Env → Heap → Option (Env × Heap)
  | [], ρ, H => some (ρ, H)
  | it :: r, ρ, H => match guardOk it.g ρ with
    | some true => match it with
      | .op d _ io => match io.step (Opd.ev ρ) H with
        | some (v, H') => runItems cl r (putv d v ρ) H'
        | none => none
      | .call d _ f xs => match f.ev ρ with
        | .fn (.func f) a b => match cl f (a ++ xs.map (Opd.ev ρ) ++ b) H with
          | some (v, H') => runItems cl r (putv d v ρ) H'
          | none => none
        | _ => none
      | .any d _ no => match no.step (Opd.ev ρ) H with
        | some [(v, H')] => runItems cl r (putv d v ρ) H'
        | _ => none
    | some false => runItems cl r (putv it.d skipV ρ) H
    | none => none

def ClOk (P : Program) (cl : FuncId → List Val → Heap → Option (Val × Heap)) : Prop :=
  ∀ f vs H v H', cl f vs H = some (v, H') → SoundCall P f vs H (fun v1 H1 => v1 = v ∧ H1 = H')

theorem runItems_ok {cl : FuncId → List Val → Heap → Option (Val × Heap)} (hcl : ClOk P cl) : ∀ {its : List RItem} {ρ ρ' : Env} {H H' : Heap}, runItems cl its ρ H = some (ρ', H') →
    ∀ {K : Env → Heap → Prop}, K ρ' H' → EvItems P its ρ H K
  | [], ρ, ρ', H, H', h, K, hk => by cases h; exact hk
  | it :: r, ρ, ρ', H, H', h, K, hk => by
    simp only [runItems] at h
    simp only [EvItems]
    split at h
    · rename_i hg
      rw [hg]
      cases it with
      | op d g io =>
        simp only [EvItem] at h ⊢
        split at h
        · rename_i v H1 hs
          rw [hs]
          exact runItems_ok hcl h hk
        · cases h
      | call d g f xs =>
        simp only [EvItem] at h ⊢
        split at h
        · rename_i f' a b hf
          rw [hf]
          split at h
          · rename_i v H1 hs
            refine (hcl _ _ _ _ _ hs).mono ?_
            rintro v1 H2 ⟨rfl, rfl⟩
            exact runItems_ok hcl h hk
          · cases h
        · cases h
      | any d g no =>
        simp only [EvItem] at h ⊢
        split at h
        · rename_i v H1 hs
          rw [hs]
          intro x hx
          obtain rfl := List.mem_singleton.1 hx
          exact runItems_ok hcl h hk
        · cases h
    · rename_i hg
      rw [hg]
      exact runItems_ok hcl h hk
    · cases h
end Go.Proofs.YtmdilnelogechaaDoor.Ev
/- Closed runs: code, functions. -/
namespace Go.Proofs.YtmdilnelogechaaDoor.Ev
open Go

mutual
def Val.beq : Val → Val → Bool
  | .u, .u => true
  | .b x, .b y => x == y
  | .i k n, .i j m => k == j && n == m
  | .s x, .s y => x.data.toList == y.data.toList
  | .nilp, .nilp => true
  | .p a b, .p c d => a == c && b == d
  | .nils, .nils => true
  | .sl a b c d, .sl a' b' c' d' => a == a' && b == b' && c == c' && d == d'
  | .nilm, .nilm => true
  | .m a, .m b => a == b
  | .nilf, .nilf => true
  | .nili, .nili => true
  | .ifc t v, .ifc u w => t == u && v.beq w
  | .agg l, .agg m => beqL l m
  | .tup l, .tup m => beqL l m
  | _, _ => false
def beqL : List Val → List Val → Bool
  | [], [] => true
  | a :: l, b :: m => a.beq b && beqL l m
  | _, _ => false
end

mutual
theorem beq_eq : ∀ {a b : Val}, a.beq b = true → a = b
  | .u, b, h => by cases b <;> simp [Val.beq] at h; rfl
  | .b x, b, h => by cases b <;> simp [Val.beq] at h; rw [h]
  | .i k n, b, h => by cases b <;> simp [Val.beq] at h; rw [h.1, h.2]
  | .s x, b, h => by
    cases b <;> simp [Val.beq] at h
    rename_i y
    cases x; cases y
    simp at h
    rw [h]
  | .nilp, b, h => by cases b <;> simp [Val.beq] at h; rfl
  | .p x y, b, h => by cases b <;> simp [Val.beq] at h; rw [h.1, h.2]
  | .nils, b, h => by cases b <;> simp [Val.beq] at h; rfl
  | .sl x y z u, b, h => by cases b <;> simp [Val.beq] at h; rw [h.1.1.1, h.1.1.2, h.1.2, h.2]
  | .nilm, b, h => by cases b <;> simp [Val.beq] at h; rfl
  | .m x, b, h => by cases b <;> simp [Val.beq] at h; rw [h]
  | .nilf, b, h => by cases b <;> simp [Val.beq] at h; rfl
  | .fn _ _ _, b, h => by cases b <;> simp [Val.beq] at h
  | .nili, b, h => by cases b <;> simp [Val.beq] at h; rfl
  | .ifc t v, b, h => by
    cases b <;> simp [Val.beq] at h
    rw [h.1, beq_eq h.2]
  | .agg l, b, h => by
    cases b <;> simp [Val.beq] at h
    rw [beqL_eq h]
  | .tup l, b, h => by
    cases b <;> simp [Val.beq] at h
    rw [beqL_eq h]
theorem beqL_eq : ∀ {a b : List Val}, beqL a b = true → a = b
  | [], [], _ => rfl
  | [], _ :: _, h => by simp [beqL] at h
  | _ :: _, [], h => by simp [beqL] at h
  | x :: a, y :: b, h => by
    simp [beqL] at h
    rw [beq_eq h.1, beqL_eq h.2]
end

def objEq : Option AObj → Option AObj → Bool
  | some (.rw a), some (.rw b) => beqL a b
  | _, _ => false
theorem objEq_eq {a b : Option AObj} (h : objEq a b = true) : a = b := by
  unfold objEq at h
  split at h
  · rw [beqL_eq h]
  · cases h

def stepIs (io : IOp) (e : Opd → Val) (H : Heap) (v : Val) : Bool :=
  match io.step e H with
  | some (u, _) => u.beq v
  | none => false

variable {P : Program}

def runD (cl : FuncId → List Val → Heap → Option (Val × Heap)) (pre : Nat → Nat → Bool) (its : List RItem) : List Nat → List (Nat × (Heap → Bool)) → Env → Heap → Option (Env × Heap)
  | [], _, ρ, H => some (ρ, H)
  | i :: r, wt, ρ, H => match its[i]? with
    | none => none
    | some it => match guardOk it.g ρ with
      | none => none
      | some false => runD cl pre its r wt (putv it.d skipV ρ) H
      | some true => match it with
        | .call d _ f xs => match f.ev ρ with
          | .fn (.func f) a b => match cl f (a ++ xs.map (Opd.ev ρ) ++ b) H with
            | some (v, H') => if wt.all (fun x => pre x.1 i || x.2 H') then runD cl pre its r wt (putv d v ρ) H' else none
            | none => none
          | _ => none
        | .any d _ no => match no.step (Opd.ev ρ) H with
          | some [(v, H')] => if wt.all (fun x => pre x.1 i || x.2 H') then runD cl pre its r wt (putv d v ρ) H' else none
          | _ => none
        | .op d _ io => match io.step (Opd.ev ρ) H with
          | none => none
          | some (v, H') =>
            if io.sort = 3 then (if wt.all (fun x => pre x.1 i || x.2 H') then runD cl pre its r wt (putv d v ρ) H' else none)
            else if io.sort = 2 then runD cl pre its r ((i, fun K' => objEq K'[H.length]? H'[H.length]?) :: wt) (putv d v ρ) H'
            else if io.sort = 1 then runD cl pre its r ((i, fun K' => stepIs io (Opd.ev ρ) K' v) :: wt) (putv d v ρ) H'
            else runD cl pre its r wt (putv d v ρ) H'

def WtRel (wb : List (Nat × (Heap → Bool))) (wt : Watch) : Prop := wb.length = wt.length ∧ ∀ (j : Nat) (a : Nat × (Heap → Bool)) (b : Nat × (Heap → Prop)), wb[j]? = some a → wt[j]? = some b → a.1 = b.1 ∧ ∀ H, a.2 H = true → b.2 H

theorem WtRel.cons {wb : List (Nat × (Heap → Bool))} {wt : Watch} (h : WtRel wb wt) {i : Nat} {f : Heap → Bool} {g : Heap → Prop} (hf : ∀ H, f H = true → g H) : WtRel ((i, f) :: wb) ((i, g) :: wt) := by
  refine ⟨by simp [h.1], fun j a b ha hb => ?_⟩
  cases j with
  | zero => simp at ha hb; subst ha; subst hb; exact ⟨rfl, hf⟩
  | succ j => exact h.2 j a b (by simpa using ha) (by simpa using hb)

theorem WtRel.check {wb : List (Nat × (Heap → Bool))} {wt : Watch} (h : WtRel wb wt) {pre : Nat → Nat → Bool} {i : Nat} {H : Heap} (hc : wb.all (fun x => pre x.1 i || x.2 H) = true) : recheck pre wt i H := by
  intro x hx
  obtain ⟨j, hj, hjx⟩ := List.getElem_of_mem hx
  have hjb : j < wb.length := by rw [h.1]; exact hj
  obtain ⟨h1, h2⟩ := h.2 j wb[j] x (List.getElem?_eq_getElem hjb) (by rw [List.getElem?_eq_getElem hj, hjx])
  have := List.all_eq_true.1 hc wb[j] (List.getElem_mem hjb)
  rw [Bool.or_eq_true] at this
  rcases this with q | q
  · rw [h1] at q; exact .inl q
  · exact .inr (h2 H q)

theorem runD_ok {cl : FuncId → List Val → Heap → Option (Val × Heap)} (hcl : ClOk P cl) {pre : Nat → Nat → Bool} {its : List RItem} {K : Env → Heap → Prop} :
    ∀ {ord : List Nat} {wb : List (Nat × (Heap → Bool))} {wt : Watch} {ρ ρ' : Env} {H H' : Heap}, WtRel wb wt → runD cl pre its ord wb ρ H = some (ρ', H') → K ρ' H' → EvD P pre its ord wt ρ H K
  | [], wb, wt, ρ, ρ', H, H', hw, h, hk => by cases h; exact hk
  | i :: r, wb, wt, ρ, ρ', H, H', hw, h, hk => by
    simp only [runD] at h
    simp only [EvD]
    split at h
    · cases h
    · rename_i it hit
      rw [hit]
      simp only []
      split at h
      · cases h
      · rename_i hg
        rw [hg]
        exact runD_ok hcl hw h hk
      · rename_i hg
        rw [hg]
        cases it with
        | call d g f xs =>
          simp only [EvItem] at h ⊢
          split at h
          · rename_i f' a b hf
            rw [hf]
            split at h
            · rename_i v H1 hs
              split at h
              · rename_i hc
                refine (hcl _ _ _ _ _ hs).mono ?_
                rintro v1 H2 ⟨rfl, rfl⟩
                exact ⟨hw.check hc, runD_ok hcl hw h hk⟩
              · cases h
            · cases h
          · cases h
        | any d g no =>
          simp only [EvItem] at h ⊢
          split at h
          · rename_i v H1 hs
            rw [hs]
            split at h
            · rename_i hc
              intro x hx
              obtain rfl := List.mem_singleton.1 hx
              exact ⟨hw.check hc, runD_ok hcl hw h hk⟩
            · cases h
          · cases h
        | op d g io =>
          simp only [] at h ⊢
          split at h
          · cases h
          · rename_i v H1 hs
            rw [hs]
            simp only []
            split at h
            · rename_i h3
              rw [if_pos h3]
              split at h
              · rename_i hc
                exact ⟨hw.check hc, runD_ok hcl hw h hk⟩
              · cases h
            · rename_i h3
              rw [if_neg h3]
              split at h
              · rename_i h2
                rw [if_pos h2]
                exact runD_ok hcl (hw.cons (fun K' q => objEq_eq q)) h hk
              · rename_i h2
                rw [if_neg h2]
                split at h
                · rename_i h1
                  rw [if_pos h1]
                  refine runD_ok hcl (hw.cons (fun K' q => ?_)) h hk
                  unfold stepIs at q
                  split at q
                  · rename_i u K2 hq
                    have := quiet_step hq (.inr h1)
                    rw [hq, beq_eq q, this]
                  · cases q
                · rename_i h1
                  rw [if_neg h1]
                  exact runD_ok hcl hw h hk

def loopN (f : Env → Heap → Option (Exit × Env × Heap)) : Nat → Env → Heap → Option (Exit × Env × Heap)
  | 0, _, _ => none
  | n + 1, ρ, H => match f ρ H with
    | some (.normal, ρ', H') => loopN f n ρ' H'
    | r => r

def exec (cl : FuncId → List Val → Heap → Option (Val × Heap)) (n : Nat) (ks : List Nat) : ICode → Env → Heap → Option (Exit × Env × Heap)
  | .skip, ρ, H => some (.normal, ρ, H)
  | .seq a b, ρ, H => match exec cl n ks a ρ H with
    | some (.normal, ρ', H') => exec cl n ks b ρ' H'
    | r => r
  | .cond c x y, ρ, H => match c.ev ρ with
    | .b true => exec cl n ks x ρ H
    | .b false => exec cl n ks y ρ H
    | _ => none
  | .block id b, ρ, H => match exec cl n ks b ρ H with
    | some (.exit i, ρ', H') => if i = id then some (.normal, ρ', H') else some (.exit i, ρ', H')
    | r => r
  | .loop b, ρ, H => loopN (exec cl n ks b) n ρ H
  | .exit id, ρ, H => some (.exit id, ρ, H)
  | .ret, ρ, H => some (.ret, ρ, H)
  | .reg its, ρ, H => match runItems cl its ρ H with
    | some (ρ', H') => some (.normal, keepEnv ks ρ', H')
    | none => none
  | .dreg its ord ms, ρ, H => match runD cl (preOf ms) its ord [] ρ H with
    | some (ρ', H') => some (.normal, keepEnv ks ρ', H')
    | none => none
  | .rf _ _ _ _, _, _ => none
  | .scope _, _, _ => none
  | .label _, _, _ => none
  | .goto _, _, _ => none

theorem EvI.keepPost {N m : Nat} (ks : List Nat) {ic : ICode} {ρ : Env} {H : Heap} {Q : Exit → Env → Heap → Prop} (h : EvI P N m ic ρ H (fun e ρ' H' => Q e (keepEnv ks ρ') H')) : EvI P N m ic ρ H Q :=
  fun c hc ro hf b D σ w a hm r ar mk hb => wpIn_mono (h c hc ro hf b D σ w a hm r ar mk hb) fun e _ _ ⟨ρ', H', σ', D', q, hr, har, hs⟩ => ⟨keepEnv ks ρ', H', σ', D', q, hr, har.weak (keepEnv_get ks ρ'), hs⟩

theorem exec_ok {cl : FuncId → List Val → Heap → Option (Val × Heap)} (hcl : ClOk P cl) {N m n : Nat} {ks : List Nat} : ∀ {ic : ICode} {ρ ρ' : Env} {H H' : Heap} {e : Exit}, exec cl n ks ic ρ H = some (e, ρ', H') →
    ∀ {Q : Exit → Env → Heap → Prop}, Q e ρ' H' → EvI P N m ic ρ H Q
  | .skip, ρ, ρ', H, H', e, h, Q, hq => by cases h; exact Eh hq
  | .exit id, ρ, ρ', H, H', e, h, Q, hq => by cases h; exact Ei hq
  | .ret, ρ, ρ', H, H', e, h, Q, hq => by cases h; exact Eg hq
  | .seq a b, ρ, ρ', H, H', e, h, Q, hq => by
    simp only [exec] at h
    split at h
    · rename_i ρ1 H1 h1
      exact Ee (exec_ok hcl h1 (exec_ok hcl h hq))
    · rename_i r hr
      cases e with
      | normal => exact absurd h (hr _ _)
      | _ => exact Ee (exec_ok hcl h hq)
  | .cond c x y, ρ, ρ', H, H', e, h, Q, hq => by
    simp only [exec] at h
    split at h
    · rename_i hb; exact ei_cond hb (fun _ => exec_ok hcl h hq) (fun h => by cases h)
    · rename_i hb; exact ei_cond hb (fun h => by cases h) (fun _ => exec_ok hcl h hq)
    · cases h
  | .rf _ _ _ _, ρ, ρ', H, H', e, h, Q, hq => by cases h
  | .scope _, ρ, ρ', H, H', e, h, Q, hq => by cases h
  | .label _, ρ, ρ', H, H', e, h, Q, hq => by cases h
  | .goto _, ρ, ρ', H, H', e, h, Q, hq => by cases h
  | .block id b, ρ, ρ', H, H', e, h, Q, hq => by
    simp only [exec] at h
    split at h
    · rename_i i ρ1 H1 h1
      split at h
      · rename_i hi
        cases h
        exact Ef (exec_ok hcl h1 (by simp only [blockQ]; rw [if_pos hi]; exact hq))
      · rename_i hi
        cases h
        exact Ef (exec_ok hcl h1 (by simp only [blockQ]; rw [if_neg hi]; exact hq))
    · rename_i r hr
      cases e with
      | exit i => exact absurd h (hr _ _ _)
      | _ => exact Ef (exec_ok hcl h hq)
  | .loop b, ρ, ρ', H, H', e, h, Q, hq => by
    simp only [exec] at h
    refine ei_loop (fun j ρ1 H1 => loopN (exec cl n ks b) j ρ1 H1 = some (e, ρ', H')) h ?_
    intro j ρ1 H1 hm
    cases j with
    | zero => cases hm
    | succ j =>
      simp only [loopN] at hm
      split at hm
      · rename_i ρ2 H2 h2
        exact exec_ok hcl h2 ⟨j, Nat.lt_succ_self j, hm⟩
      · rename_i r hr
        cases e with
        | normal => exact absurd hm (hr _ _)
        | _ => exact exec_ok hcl hm hq
  | .reg its, ρ, ρ', H, H', e, h, Q, hq => by
    simp only [exec] at h
    split at h
    · rename_i ρ1 H1 h1
      cases h
      exact EvI.keepPost ks (ei_reg (runItems_ok hcl h1 hq))
    · cases h
  | .dreg its ord ms, ρ, ρ', H, H', e, h, Q, hq => by
    simp only [exec] at h
    split at h
    · rename_i ρ1 H1 h1
      cases h
      exact EvI.keepPost ks (ei_dreg (runD_ok hcl ⟨rfl, by simp⟩ h1 hq))
    · cases h

def FT := FuncId → Option (IFunc × List Nat)
def FtOk (P : Program) (ft : FT) : Prop := ∀ f F ks, ft f = some (F, ks) → ∃ fn ar, P.funcs[f]? = some fn ∧ compF P ar fn = some F
def ExtOk (P : Program) (ext : FuncId → List Val → Option Val) : Prop := ∀ f vs v, ext f vs = some v → ∀ H, SoundCall P f vs H (fun v1 H1 => v1 = v ∧ H1 = H)

def call (ft : FT) (ext : FuncId → List Val → Option Val) (n : Nat) : Nat → FuncId → List Val → Heap → Option (Val × Heap)
  | 0, _, _, _ => none
  | d + 1, f, vs, H => match ext f vs with
    | some v => some (v, H)
    | none => match ft f with
      | some (F, ks) => if vs.length = F.ar then match exec (call ft ext n d) n ks F.body (initEnv 0 vs) H with
          | some (.normal, ρ', H') => (resV ρ' H' F.res).map (·, H')
          | some (.ret, ρ', H') => (resV ρ' H' F.res).map (·, H')
          | _ => none
        else none
      | none => none

theorem call_ok {ft : FT} {ext : FuncId → List Val → Option Val} (hft : FtOk P ft) (hext : ExtOk P ext) {n : Nat} : ∀ d, ClOk P (call ft ext n d)
  | 0 => fun f vs H v H' h => by cases h
  | d + 1 => by
    intro f vs H v H' h
    simp only [call] at h
    split at h
    · rename_i v1 h1
      cases h
      exact hext f vs v h1 H
    · split at h
      · rename_i F ks hF
        obtain ⟨fn, ar, h1, h2⟩ := hft f F ks hF
        split at h
        · rename_i hl
          split at h
          · rename_i ρ' H1 he
            obtain ⟨u, hu, h5⟩ := Option.map_eq_some_iff.1 h
            cases h5
            exact sound_func h1 h2 hl (Nat.le_refl _) (exec_ok (call_ok hft hext d) he ⟨v, hu, rfl, rfl⟩)
          · rename_i ρ' H1 he
            obtain ⟨u, hu, h5⟩ := Option.map_eq_some_iff.1 h
            cases h5
            exact sound_func h1 h2 hl (Nat.le_refl _) (exec_ok (call_ok hft hext d) he ⟨v, hu, rfl, rfl⟩)
          · cases h
        · cases h
      · cases h
def ftOf (l : List (Nat × IFunc × List Nat)) : FT := fun f => (l.find? (fun x => x.1 == f)).map (·.2)
theorem ftOf_ok {l : List (Nat × IFunc × List Nat)} (h : ∀ x ∈ l, ∃ fn ar, P.funcs[x.1]? = some fn ∧ compF P ar fn = some x.2.1) : FtOk P (ftOf l) := by
  intro f F ks hf
  unfold ftOf at hf
  obtain ⟨x, hx, h5⟩ := Option.map_eq_some_iff.1 hf
  have hm := List.mem_of_find?_eq_some hx
  have hp := List.find?_some hx
  obtain ⟨fn, ar, h1, h2⟩ := h x hm
  simp only [beq_iff_eq] at hp
  obtain ⟨a, b, c⟩ := x
  cases h5
  subst hp
  exact ⟨fn, ar, h1, h2⟩

/-- A CLOSED RUN: an answer without names, beside whatever there is. -/
theorem sound_run {ft : FT} {ext : FuncId → List Val → Option Val} (hft : FtOk P ft) (hext : ExtOk P ext) {n d : Nat} {f : FuncId} {vs : List Val} {v : Val} (hc : v.closed = true) (hvs : closedL vs = true)
    (h : (call ft ext n d f vs []).map (·.1) = some v) (H : Heap) : SoundCall P f vs H (fun v' H' => v' = v ∧ H' = H) := by
  obtain ⟨⟨v1, H1⟩, h1, h2⟩ := Option.map_eq_some_iff.1 h
  simp only at h2
  subst h2
  exact sound_pure (R := fun v' => v' = v1) hvs (fun v' hv => by rw [hv]; exact hc) ((call_ok hft hext d f vs [] v1 H1 h1).mono fun v' H' q => q.1) H

end Go.Proofs.YtmdilnelogechaaDoor.Ev
/- Other names for the objects: a call's own few objects beside all others; the state told anew. -/
namespace Go.Proofs.YtmdilnelogechaaDoor.Ev
open Go
variable {Df : List Deferred} {ro : Option Nat}

mutual
def Val.ren (ι : Nat → Nat) : Val → Val
  | .p id off => .p (ι id) off
  | .sl id off n sz => .sl (ι id) off n sz
  | .m id => .m (ι id)
  | .fn f a b => .fn f (renL ι a) (renL ι b)
  | .ifc t v => .ifc t (v.ren ι)
  | .agg l => .agg (renL ι l)
  | .tup l => .tup (renL ι l)
  | .yld id => .yld (ι id)
  | .u => .u
  | .b x => .b x
  | .i k n => .i k n
  | .s x => .s x
  | .nilp => .nilp
  | .nils => .nils
  | .nilm => .nilm
  | .nilf => .nilf
  | .nili => .nili
def renL (ι : Nat → Nat) : List Val → List Val
  | [] => []
  | v :: r => v.ren ι :: renL ι r
end

mutual
/-- Its names are below m. -/
def Val.wf (m : Nat) : Val → Bool
  | .p id _ => decide (id < m)
  | .sl id _ _ _ => decide (id < m)
  | .m id => decide (id < m)
  | .fn _ a b => wfL m a && wfL m b
  | .ifc _ v => v.wf m
  | .agg l => wfL m l
  | .tup l => wfL m l
  | .yld id => decide (id < m)
  | _ => true
def wfL (m : Nat) : List Val → Bool
  | [] => true
  | v :: r => v.wf m && wfL m r
end

theorem renL_map (ι : Nat → Nat) : ∀ l : List Val, renL ι l = l.map (Val.ren ι)
  | [] => rfl
  | v :: r => by simp [renL, renL_map ι r]

theorem renL_get (ι : Nat → Nat) (l : List Val) (j : Nat) : (renL ι l)[j]? = (l[j]?).map (Val.ren ι) := by rw [renL_map]; simp
theorem renL_length (ι : Nat → Nat) (l : List Val) : (renL ι l).length = l.length := by rw [renL_map]; simp

theorem VRel.ren {σ τ : Names} {ι : Nat → Nat} (h : ∀ id l, σ id = some l → τ (ι id) = some l) {v : Val} {c : Value} (r : VRel σ v c) : VRel τ (v.ren ι) c := by
  induction r with
  | u c => exact .u c
  | b x => exact .b x
  | i k n => exact .i k n
  | s x => exact .s x
  | nilp => exact .nilp
  | p hs => exact .p (h _ _ hs)
  | nils => exact .nils
  | sl hs hl hz ho => exact .sl (h _ _ hs) hl hz ho
  | nilm => exact .nilm
  | m hs => exact .m (h _ _ hs)
  | nilf => exact .nilf
  | fn f ha hb _ _ ra rb =>
    refine .fn f (by rw [renL_length]; exact ha) (by rw [renL_length]; exact hb) (fun j v c hj hc => ?_) (fun j v c hj hc => ?_)
    · rw [renL_get] at hj
      obtain ⟨u, hu, rfl⟩ := Option.map_eq_some_iff.1 hj
      exact ra j u c hu hc
    · rw [renL_get] at hj
      obtain ⟨u, hu, rfl⟩ := Option.map_eq_some_iff.1 hj
      exact rb j u c hu hc
  | nili => exact .nili
  | ifc t _ ih => exact .ifc t ih
  | agg ha _ ra =>
    refine .agg (by rw [renL_length]; exact ha) fun j v c hj hc => ?_
    rw [renL_get] at hj
    obtain ⟨u, hu, rfl⟩ := Option.map_eq_some_iff.1 hj
    exact ra j u c hu hc
  | yld hs => exact .yld (h _ _ hs)
  | tup ha _ ra =>
    refine .tup (by rw [renL_length]; exact ha) fun j v c hj hc => ?_
    rw [renL_get] at hj
    obtain ⟨u, hu, rfl⟩ := Option.map_eq_some_iff.1 hj
    exact ra j u c hu hc

mutual
theorem VRel.unren {σ τ : Names} {ι : Nat → Nat} {m : Nat} (h : ∀ id l, id < m → σ (ι id) = some l → τ id = some l) : ∀ (v : Val) {c : Value}, VRel σ (v.ren ι) c → v.wf m = true → VRel τ v c
  | .u, c, r, _ => .u c
  | .b x, c, r, _ => by cases r; exact .b x
  | .i k n, c, r, _ => by cases r; exact .i k n
  | .s x, c, r, _ => by cases r; exact .s x
  | .nilp, c, r, _ => by cases r; exact .nilp
  | .p id off, c, r, hw => by
    simp only [Val.wf, decide_eq_true_eq] at hw
    cases r with
    | p hs => exact .p (h _ _ hw hs)
  | .nils, c, r, _ => by cases r; exact .nils
  | .sl id off n sz, c, r, hw => by
    simp only [Val.wf, decide_eq_true_eq] at hw
    cases r with
    | sl hs hl hz ho => exact .sl (h _ _ hw hs) hl hz ho
  | .nilm, c, r, _ => by cases r; exact .nilm
  | .m id, c, r, hw => by
    simp only [Val.wf, decide_eq_true_eq] at hw
    cases r with
    | m hs => exact .m (h _ _ hw hs)
  | .nilf, c, r, _ => by cases r; exact .nilf
  | .fn f a b, c, r, hw => by
    simp only [Val.wf, Bool.and_eq_true] at hw
    cases r with
    | fn _ ha hb ra rb =>
      exact .fn f (by rw [← ha, renL_length]) (by rw [← hb, renL_length]) (fun j v c hj hc => unrenL h a (fun j => _) ra hw.1 j v c hj hc) (fun j v c hj hc => unrenL h b (fun j => _) rb hw.2 j v c hj hc)
  | .nili, c, r, _ => by cases r; exact .nili
  | .ifc t v, c, r, hw => by
    simp only [Val.wf] at hw
    cases r with
    | ifc _ r => exact .ifc t (VRel.unren h v r hw)
  | .agg l, c, r, hw => by
    simp only [Val.wf] at hw
    cases r with
    | agg ha ra => exact .agg (by rw [← ha, renL_length]) fun j v c hj hc => unrenL h l (fun j => _) ra hw j v c hj hc
  | .yld id, c, r, hw => by
    simp only [Val.wf, decide_eq_true_eq] at hw
    cases r with
    | yld hs => exact .yld (h _ _ hw hs)
  | .tup l, c, r, hw => by
    simp only [Val.wf] at hw
    cases r with
    | tup ha ra => exact .tup (by rw [← ha, renL_length]) fun j v c hj hc => unrenL h l (fun j => _) ra hw j v c hj hc
theorem unrenL {σ τ : Names} {ι : Nat → Nat} {m : Nat} (h : ∀ id l, id < m → σ (ι id) = some l → τ id = some l) : ∀ (l : List Val) (get : Nat → Option Value),
    (∀ (j : Nat) (v : Val) (c : Value), (renL ι l)[j]? = some v → get j = some c → VRel σ v c) → wfL m l = true → ∀ (j : Nat) (v : Val) (c : Value), l[j]? = some v → get j = some c → VRel τ v c
  | [], get, r, hw, j, v, c, hj, hc => by simp at hj
  | x :: l, get, r, hw, 0, v, c, hj, hc => by
    simp at hj; subst hj
    simp only [wfL, Bool.and_eq_true] at hw
    exact VRel.unren h _ (r 0 _ c rfl hc) hw.1
  | x :: l, get, r, hw, j + 1, v, c, hj, hc => by
    simp only [wfL, Bool.and_eq_true] at hw
    exact unrenL h l (fun j => get (j + 1)) (fun j v c hj hc => r (j + 1) v c (by simpa [renL] using hj) hc) hw.2 j v c (by simpa using hj) hc
end

def AObj.ren (ι : Nat → Nat) : AObj → AObj
  | .rw c => .rw (renL ι c)
  | .ro c => .ro (renL ι c)
  | .map es ck => .map (es.map fun x => (x.1, x.2.1.ren ι, x.2.2.ren ι)) ck
  | .iter mid since seen last => .iter (ι mid) since seen last
  | .loop st pend N ρ ps asg body => .loop st pend N (ρ.map fun x => (x.1, x.2.ren ι)) ps asg body
  | .dead => .dead
def AObj.wf (m : Nat) : AObj → Bool
  | .rw c => wfL m c
  | .ro c => wfL m c
  | .map es _ => es.all fun x => x.2.1.wf m && x.2.2.wf m
  | .iter mid _ _ _ => decide (mid < m)
  | .loop _ _ _ ρ _ _ _ => ρ.all fun x => x.2.wf m
  | .dead => true

theorem wfL_get {m : Nat} : ∀ {l : List Val} {j : Nat} {v : Val}, wfL m l = true → l[j]? = some v → v.wf m = true
  | [], _, _, _, h => by simp at h
  | x :: r, 0, v, h, hj => by
    simp [wfL] at h hj
    subst hj; exact h.1
  | x :: r, j + 1, v, h, hj => by
    simp [wfL] at h hj
    exact wfL_get h.2 hj

theorem mapEnv_get (ι : Nat → Nat) (ρ : Env) (t : Nat) : Env.get (ρ.map fun x => (x.1, x.2.ren ι)) t = (ρ.get t).ren ι := by
  induction ρ with
  | nil => rfl
  | cons x ρ ih =>
    obtain ⟨k, v⟩ := x
    simp only [List.map_cons, Env.get]
    split
    · rfl
    · exact ih
theorem allEnv_get {m : Nat} {ρ : Env} (h : (ρ.all fun x => x.2.wf m) = true) (t : Nat) : (ρ.get t).wf m = true := by
  induction ρ with
  | nil => rfl
  | cons x ρ ih =>
    obtain ⟨k, v⟩ := x
    simp only [List.all_cons, Bool.and_eq_true] at h
    simp only [Env.get]
    split
    · exact h.1
    · exact ih h.2
theorem ORel.ren {σ τ : Names} {ι : Nat → Nat} (h : ∀ id l, σ id = some l → τ (ι id) = some l) {w : World} {o : AObj} {l : Loc} (r : ORel σ w o l) : ORel τ w (o.ren ι) l := by
  cases o with
  | dead => trivial
  | ro c =>
    refine ⟨by rw [renL_length]; exact r.1, fun j v hj => ?_⟩
    rw [renL_get] at hj
    obtain ⟨u, hu, rfl⟩ := Option.map_eq_some_iff.1 hj
    obtain ⟨x, h1, h2, h3⟩ := r.2 j u hu
    exact ⟨x, h1, h2.ren h, h3⟩
  | rw c =>
    refine ⟨⟨by rw [renL_length]; exact r.1.1, fun j v hj => ?_⟩, r.2⟩
    rw [renL_get] at hj
    obtain ⟨u, hu, rfl⟩ := Option.map_eq_some_iff.1 hj
    obtain ⟨x, h1, h2, h3⟩ := r.1.2 j u hu
    exact ⟨x, h1, h2.ren h, h3⟩
  | map es ck =>
    obtain ⟨E, h1, h2, h3⟩ := r
    refine ⟨E, h1, by simpa using h2, fun j x e hj he => ?_⟩
    simp only [List.getElem?_map] at hj
    obtain ⟨u, hu, rfl⟩ := Option.map_eq_some_iff.1 hj
    obtain ⟨g1, g2, g3⟩ := h3 j u e hu he
    exact ⟨g1, g2.ren h, g3.ren h⟩
  | iter mid since seen last =>
    obtain ⟨h0, lm, h1, h2⟩ := r
    exact ⟨h0, lm, h _ _ h1, h2⟩
  | loop st pend N ρ ps asg body =>
    obtain ⟨q, h1, h2, h3, h4, h5, h6, h7, h8⟩ := r
    refine ⟨q, h1, h2, h3, h4, h5, h6, h7, fun t => ?_⟩
    rw [mapEnv_get]
    exact (h8 t).ren h

theorem ORel.unren {σ τ : Names} {ι : Nat → Nat} {m : Nat} (h : ∀ id l, id < m → σ (ι id) = some l → τ id = some l) {w : World} {o : AObj} {l : Loc} (r : ORel σ w (o.ren ι) l) (hw : o.wf m = true) : ORel τ w o l := by
  cases o with
  | dead => trivial
  | ro c =>
    simp only [AObj.wf] at hw
    have r1 : l.base + (renL ι c).length ≤ l.size := r.1
    refine ⟨by rw [renL_length] at r1; exact r1, fun j v hj => ?_⟩
    obtain ⟨x, h1, h2, h3⟩ := r.2 j (v.ren ι) (by rw [renL_get, hj]; rfl)
    exact ⟨x, h1, VRel.unren h v h2 (wfL_get hw hj), h3⟩
  | rw c =>
    simp only [AObj.wf] at hw
    have r1 : l.base + (renL ι c).length ≤ l.size := r.1.1
    refine ⟨⟨by rw [renL_length] at r1; exact r1, fun j v hj => ?_⟩, r.2⟩
    obtain ⟨x, h1, h2, h3⟩ := r.1.2 j (v.ren ι) (by rw [renL_get, hj]; rfl)
    exact ⟨x, h1, VRel.unren h v h2 (wfL_get hw hj), h3⟩
  | map es ck =>
    simp only [AObj.wf] at hw
    obtain ⟨E, h1, h2, h3⟩ := r
    refine ⟨E, h1, by simpa using h2, fun j x e hj he => ?_⟩
    obtain ⟨g1, g2, g3⟩ := h3 j (x.1, x.2.1.ren ι, x.2.2.ren ι) e (by simp [hj]) he
    have hx := List.all_eq_true.1 hw x (List.mem_of_getElem? hj)
    simp only [Bool.and_eq_true] at hx
    exact ⟨g1, VRel.unren h _ g2 hx.1, VRel.unren h _ g3 hx.2⟩
  | iter mid since seen last =>
    simp only [AObj.wf, decide_eq_true_eq] at hw
    obtain ⟨h0, lm, h1, h2⟩ := r
    exact ⟨h0, lm, h _ _ hw h1, h2⟩
  | loop st pend N ρ ps asg body =>
    simp only [AObj.wf] at hw
    obtain ⟨q, h1, h2, h3, h4, h5, h6, h7, h8⟩ := r
    refine ⟨q, h1, h2, h3, h4, h5, h6, h7, fun t => ?_⟩
    have := h8 t
    rw [mapEnv_get] at this
    exact VRel.unren h _ this (allEnv_get hw t)

theorem ren_live (ι : Nat → Nat) (o : AObj) : (o.ren ι).live = o.live := by cases o <;> rfl
theorem ren_isro (ι : Nat → Nat) (o : AObj) : (o.ren ι).isro = o.isro := by cases o <;> rfl

/-- The few objects C stand, under the names ι, among those of H. -/
structure Emb (ι : Nat → Nat) (C H : Heap) : Prop where
  inj : ∀ x y, x < C.length → y < C.length → ι x = ι y → x = y
  at_ : ∀ (x : Nat) (o : AObj), C[x]? = some o → H[ι x]? = some (o.ren ι)
  wf : ∀ (x : Nat) (o : AObj), C[x]? = some o → o.wf C.length = true

/-- The names of the few. -/
def back (σ : Names) (ι : Nat → Nat) (n : Nat) : Names := fun x => if x < n then σ (ι x) else none

theorem Rel.emb {σ : Names} {C H : Heap} {w : World} {ι : Nat → Nat} (r : Rel σ H w) (h : Emb ι C H) : Rel (back σ ι C.length) C w := by
  have hb : ∀ id l, id < C.length → σ (ι id) = some l → back σ ι C.length id = some l := fun id l hi hs => by simp [back, hi, hs]
  have hbk : ∀ id l, back σ ι C.length id = some l → id < C.length ∧ σ (ι id) = some l := by
    intro id l hs
    unfold back at hs
    split at hs
    · rename_i hi; exact ⟨hi, hs⟩
    · cases hs
  have hlv : ∀ x, Live C x → Live H (ι x) := by
    rintro x ⟨o, h1, h2⟩
    exact ⟨_, h.at_ x o h1, by rw [ren_live]; exact h2⟩
  have hro : ∀ x, Ro C x → Ro H (ι x) := by
    rintro x ⟨o, h1, h2⟩
    exact ⟨_, h.at_ x o h1, by rw [ren_isro]; exact h2⟩
  refine ⟨⟨fun id l hs => (hbk id l hs).1, fun id l o hs ho => ?_, fun id l hs => r.blk _ l (hbk id l hs).2, fun x y lx ly hx hy h1 h2 h3 => ?_⟩, fun z hz => ⟨(r.fix z hz).1, (r.fix z hz).2.1, fun id l hs hl => (r.fix z hz).2.2 _ l (hbk id l hs).2 (hlv id hl)⟩⟩
  · obtain ⟨hi, hs'⟩ := hbk id l hs
    exact (r.obj _ l _ hs' (h.at_ id o ho)).unren hb (h.wf id o ho)
  · obtain ⟨hxi, hxs⟩ := hbk x lx hx
    obtain ⟨hyi, hys⟩ := hbk y ly hy
    exact h.inj x y hxi hyi (r.inj _ _ lx ly hxs hys (hlv x h1) (h2.imp (hlv y) (hro y)) h3)

variable {P : Program}

theorem LRel.unren {σ : Names} {C : Heap} {ι : Nat → Nat} {vs : List Val} {cs : Array Value} (l : LRel σ (renL ι vs) cs) (hw : wfL C.length vs = true) : LRel (back σ ι C.length) vs cs := by
  refine ⟨by rw [← l.1, renL_length], fun j v c hj hc => ?_⟩
  exact VRel.unren (ι := ι) (fun id l hi hs => by simp [back, hi, hs]) v (l.2 j _ c (by rw [renL_get, hj]; rfl) hc) (wfL_get hw hj)

/-- The names behind the call: the old ones, then the new ones, behind all. -/
def after (ι : Nat → Nat) (m n : Nat) : Nat → Nat := fun x => if x < m then ι x else n + (x - m)

/-- The objects whose names are told: those below m are what they are behind the call, the others are gone. -/
def place (κ : Nat → Nat) (m : Nat) (C' : Heap) : List Nat → Nat → Heap → Heap
  | [], _, H => H
  | id :: r, x, H => place κ m C' r (x + 1) (H.set id (if x < m then ((C'[x]?).getD .dead).ren κ else .dead))

/-- The objects behind the call. -/
def merge (ids : List Nat) (m : Nat) (H C' : Heap) : Heap :=
  place (after (fun x => ids.getD x 0) m H.length) m C' ids 0 H ++ (C'.drop m).map (AObj.ren (after (fun x => ids.getD x 0) m H.length))

theorem place_length (κ : Nat → Nat) (m : Nat) (C' : Heap) : ∀ (ids : List Nat) (x : Nat) (H : Heap), (place κ m C' ids x H).length = H.length
  | [], _, _ => rfl
  | id :: r, x, H => by rw [place, place_length]; simp

theorem place_out (κ : Nat → Nat) (m : Nat) (C' : Heap) {y : Nat} : ∀ (ids : List Nat) (x : Nat) (H : Heap), y ∉ ids → (place κ m C' ids x H)[y]? = H[y]?
  | [], _, _, _ => rfl
  | id :: r, x, H, h => by
    simp at h
    rw [place, place_out κ m C' r _ _ h.2, List.getElem?_set_ne (Ne.symm h.1)]

theorem place_in (κ : Nat → Nat) (m : Nat) (C' : Heap) : ∀ (ids : List Nat) (x : Nat) (H : Heap) (j id : Nat), ids.Nodup → ids[j]? = some id → id < H.length →
    (place κ m C' ids x H)[id]? = some (if x + j < m then ((C'[x + j]?).getD .dead).ren κ else .dead)
  | [], _, _, j, id, _, h, _ => by simp at h
  | i :: r, x, H, 0, id, hn, h, hl => by
    simp at h; subst h
    rw [place, place_out κ m C' r _ _ (List.nodup_cons.1 hn).1, List.getElem?_set_self (by simpa using hl)]
    simp
  | i :: r, x, H, j + 1, id, hn, h, hl => by
    rw [place, place_in κ m C' r (x + 1) _ j id (List.nodup_cons.1 hn).2 (by simpa using h) (by simpa using hl)]
    rw [show x + 1 + j = x + (j + 1) by omega]

/-- THE FRAME: a call that was looked at beside its own few objects alone. -/
theorem sound_frame {m : Nat} {f : FuncId} {vs : List Val} {C : Heap} {Q : Val → Heap → Prop} (h : SoundM P m f vs C Q) {ids : List Nat} {H : Heap} (hlen : ids.length = C.length) (hnd : ids.Nodup)
    (hat : ∀ (x : Nat) (o : AObj), C[x]? = some o → H[ids.getD x 0]? = some (o.ren fun x => ids.getD x 0)) (hwf : ∀ (x : Nat) (o : AObj), C[x]? = some o → o.wf C.length = true) (hvs : wfL C.length vs = true)
    {ws : List Val} (hws : ws = renL (fun x => ids.getD x 0) vs) :
    SoundCall P f ws H (fun v H' => ∃ v0 C', Q v0 C' ∧ v = v0.ren (after (fun x => ids.getD x 0) m H.length) ∧ H' = merge ids m H C') := by
  subst hws
  have hm : m ≤ C.length := h.1
  have hget : ∀ x, x < C.length → ids[x]? = some (ids.getD x 0) := by
    intro x hx
    rw [List.getD_eq_getElem?_getD, List.getElem?_eq_getElem (by omega)]; rfl
  have hinj : ∀ x y, x < C.length → y < C.length → ids.getD x 0 = ids.getD y 0 → x = y := by
    intro x y hx hy he
    have h1 := hget x hx
    have h2 := hget y hy
    rw [he] at h1
    exact (List.getElem?_inj (by omega) hnd).1 (h1.trans h2.symm)
  have hlt : ∀ x, x < C.length → ids.getD x 0 < H.length := by
    intro x hx
    exact (List.getElem?_eq_some_iff.1 (hat x _ (List.getElem?_eq_getElem hx))).1
  have hemb : Emb (fun x => ids.getD x 0) C H := ⟨hinj, hat, hwf⟩
  refine ⟨Nat.le_refl _, fun σ w cs r l => ?_⟩
  have hidx : ∀ id, id ∈ ids → ∃ x, x < C.length ∧ ids.getD x 0 = id := by
    intro id hi
    obtain ⟨x, hx, he⟩ := List.getElem_of_mem hi
    refine ⟨x, by omega, ?_⟩
    rw [List.getD_eq_getElem?_getD, List.getElem?_eq_getElem hx, he]; rfl
  have key : ∀ e w', PostM m (back σ (fun x => ids.getD x 0) C.length) C w Q e w' →
      PostM H.length σ H w (fun v H' => ∃ v0 C', Q v0 C' ∧ v = v0.ren (after (fun x => ids.getD x 0) m H.length) ∧ H' = merge ids m H C') e w' := by
    rintro e w' ⟨v0, c, C', σ1, rfl, hv, hq, hr, hs⟩
    generalize hκ : after (fun x => ids.getD x 0) m H.length = κ
    have hκlo : ∀ x, x < m → κ x = ids.getD x 0 := fun x hx => by rw [← hκ]; simp [after, hx]
    have hκhi : ∀ x, m ≤ x → κ x = H.length + (x - m) := fun x hx => by rw [← hκ]; simp [after]; omega
    have hmg : merge ids m H C' = place κ m C' ids 0 H ++ (C'.drop m).map (AObj.ren κ) := by rw [← hκ]; rfl
    let σ2 : Names := fun id => if id < H.length then σ id else σ1 (m + (id - H.length))
    have hσlo : ∀ id, id < H.length → σ2 id = σ id := fun id hi => by simp [σ2, hi]
    have hσhi : ∀ id, H.length ≤ id → σ2 id = σ1 (m + (id - H.length)) := fun id hi => by simp [σ2]; omega
    have hbk : ∀ id l, back σ (fun x => ids.getD x 0) C.length id = some l → id < C.length ∧ σ (ids.getD id 0) = some l := by
      intro id l hs
      unfold back at hs
      split at hs
      · rename_i hi; exact ⟨hi, hs⟩
      · cases hs
    have hnames : ∀ id l, σ1 id = some l → σ2 (κ id) = some l := by
      intro id l h1
      by_cases hi : id < m
      · rw [hκlo id hi, hσlo _ (hlt id (by omega))]
        rw [hs.ext id hi] at h1
        exact (hbk id l h1).2
      · rw [hκhi id (by omega), hσhi _ (by omega), show m + (H.length + (id - m) - H.length) = id by omega]
        exact h1
    have hle : σ.le σ2 := fun id l h1 => by rw [hσlo id (r.dom id l h1)]; exact h1
    have hlen2 : (merge ids m H C').length = H.length + (C'.length - m) := by rw [hmg]; simp [place_length]
    -- what stands at a name
    have hat2 : ∀ id, id < H.length → id ∉ ids → (merge ids m H C')[id]? = H[id]? := by
      intro id hi hn
      rw [hmg, List.getElem?_append_left (by rw [place_length]; exact hi), place_out κ m C' ids 0 H hn]
    have hat3 : ∀ x, x < C.length → (merge ids m H C')[ids.getD x 0]? = some (if x < m then ((C'[x]?).getD .dead).ren κ else .dead) := by
      intro x hx
      rw [hmg, List.getElem?_append_left (by rw [place_length]; exact hlt x hx), place_in κ m C' ids 0 H x _ hnd (hget x hx) (hlt x hx)]
      simp
    have hat4 : ∀ id, H.length ≤ id → (merge ids m H C')[id]? = (C'[m + (id - H.length)]?).map (AObj.ren κ) := by
      intro id hi
      rw [hmg, List.getElem?_append_right (by rw [place_length]; exact hi), place_length]
      simp
    have hcl : m ≤ C'.length := hs.len
    -- each live or lasting object is an old one that the call did not get, or one of the call's
    have horig : ∀ id l, σ2 id = some l → ∀ o, (merge ids m H C')[id]? = some o → o ≠ .dead →
        (id < H.length ∧ id ∉ ids ∧ σ id = some l ∧ H[id]? = some o) ∨ ∃ x o', κ x = id ∧ σ1 x = some l ∧ C'[x]? = some o' ∧ o = o'.ren κ := by
      intro id l h1 o h2 h3
      by_cases hi : id < H.length
      · rw [hσlo id hi] at h1
        by_cases hin : id ∈ ids
        · obtain ⟨x, hx, rfl⟩ := hidx id hin
          rw [hat3 x hx] at h2
          by_cases hxm : x < m
          · rw [if_pos hxm] at h2
            have hxc : C'[x]? = some (C'[x]'(by omega)) := List.getElem?_eq_getElem _
            rw [hxc] at h2
            simp at h2
            refine .inr ⟨x, _, hκlo x hxm, ?_, hxc, h2.symm⟩
            rw [hs.ext x hxm]
            unfold back
            rw [if_pos hx]
            exact h1
          · rw [if_neg hxm] at h2
            cases h2; exact absurd rfl h3
        · rw [hat2 id hi hin] at h2
          exact .inl ⟨hi, hin, h1, h2⟩
      · rw [hσhi id (by omega)] at h1
        rw [hat4 id (by omega)] at h2
        obtain ⟨o', h4, h5⟩ := Option.map_eq_some_iff.1 h2
        exact .inr ⟨m + (id - H.length), o', by rw [hκhi _ (by omega)]; omega, h1, h4, h5.symm⟩
    have hemlive : ∀ x, Live C x → Live H (ids.getD x 0) := by
      rintro x ⟨o, h1, h2⟩
      exact ⟨_, hat x o h1, by rw [ren_live]; exact h2⟩
    have hemro : ∀ x, Ro C x → Ro H (ids.getD x 0) := by
      rintro x ⟨o, h1, h2⟩
      exact ⟨_, hat x o h1, by rw [ren_isro]; exact h2⟩
    have hnd1 : ∀ id, Live (merge ids m H C') id → ∃ o, (merge ids m H C')[id]? = some o ∧ o ≠ .dead ∧ o.live = true := by
      rintro id ⟨o, h1, h2⟩
      exact ⟨o, h1, by rintro rfl; simp [AObj.live] at h2, h2⟩
    have hnd2 : ∀ id, Ro (merge ids m H C') id → ∃ o, (merge ids m H C')[id]? = some o ∧ o ≠ .dead ∧ o.isro = true := by
      rintro id ⟨o, h1, h2⟩
      exact ⟨o, h1, by rintro rfl; simp [AObj.isro] at h2, h2⟩
    -- an old one beside one of the call's own: not of one block
    have hmix : ∀ (x : Nat) (lx : Loc) (y : Nat) (ly : Loc), σ1 x = some lx → (Live C' x ∨ Ro C' x) → y ∉ ids → σ y = some ly → (Live H y ∨ Ro H y) → (Live C' x ∨ Live H y) → lx.blk ≠ ly.blk := by
      intro x lx y ly h1 h2 h3 h4 h5 h6 hb
      have hblk := r.blk y ly h4
      rcases h2 with h2 | h2
      · rcases hs.fresh x lx h1 h2 with hf | ⟨z, lz, g1, g2, g3⟩
        · omega
        · obtain ⟨hz, hzs⟩ := hbk z lz g1
          have := r.inj _ y lz ly hzs h4 (hemlive z g2) h5 (by omega)
          exact h3 (by rw [← this]; exact List.mem_of_getElem? (hget z hz))
      · obtain ⟨z, lz, g1, g2, g3⟩ := hs.ro x lx h1 h2
        obtain ⟨hz, hzs⟩ := hbk z lz g1
        rcases h6 with h6 | h6
        · obtain ⟨o, q1, q2⟩ := h2
          obtain ⟨o', q3, q4⟩ := h6
          rw [q1] at q3; cases q3
          cases o <;> simp [AObj.live, AObj.isro] at q2 q4
        · have := r.inj y _ ly lz h4 hzs h6 (.inr (hemro z g2)) (by omega)
          exact h3 (by rw [this]; exact List.mem_of_getElem? (hget z hz))
    have hrel : Rel σ2 (merge ids m H C') w' := by
      refine ⟨⟨fun id l h1 => ?_, fun id l o h1 h2 => ?_, fun id l h1 => ?_, fun x y lx ly hx hy h1 h2 h3 => ?_⟩, fun z hz => ⟨(hr.fix z hz).1, (hr.fix z hz).2.1, fun id l h1 h2 => ?_⟩⟩
      case refine_5 =>
        obtain ⟨o, ho, hod, hol⟩ := hnd1 id h2
        rcases horig id l h1 o ho hod with ⟨a1, a2, a3, a4⟩ | ⟨x0, o0, a1, a2, a3, a4⟩
        · exact (r.fix z hz).2.2 id l a3 ⟨o, a4, hol⟩
        · subst a4
          rw [ren_live] at hol
          exact (hr.fix z hz).2.2 x0 l a2 ⟨o0, a3, hol⟩
      · rw [hlen2]
        by_cases hi : id < H.length
        · omega
        · rw [hσhi id (by omega)] at h1
          have := hr.dom _ l h1
          omega
      · by_cases hd : o = .dead
        · subst hd; trivial
        · rcases horig id l h1 o h2 hd with ⟨g1, g2, g3, g4⟩ | ⟨x, o', g1, g2, g3, g4⟩
          · refine ((r.obj id l o g3 g4).congr (hs.keep _ (r.blk id l g3) ?_)).mono hle
            intro z lz k1 k2 k3
            obtain ⟨hz, hzs⟩ := hbk z lz k1
            have hl : Live H id ∨ Ro H id := by
              cases o with
              | rw c => exact .inl ⟨_, g4, rfl⟩
              | ro c => exact .inr ⟨_, g4, rfl⟩
              | map es ck => exact .inl ⟨_, g4, rfl⟩
              | iter a b c d => exact .inl ⟨_, g4, rfl⟩
              | loop _ _ _ _ _ _ _ => exact .inl ⟨_, g4, rfl⟩
              | dead => exact absurd rfl hd
            have := r.inj _ id lz l hzs g3 (hemlive z k2) hl k3
            exact g2 (by rw [← this]; exact List.mem_of_getElem? (hget z hz))
          · subst g4
            exact (hr.obj x l o' g2 g3).ren hnames
      · by_cases hi : id < H.length
        · rw [hσlo id hi] at h1
          exact Nat.lt_of_lt_of_le (r.blk id l h1) hs.size
        · rw [hσhi id (by omega)] at h1
          exact hr.blk _ l h1
      · obtain ⟨ox, hox, hoxd, hoxl⟩ := hnd1 x h1
        have hy2 : ∃ oy, (merge ids m H C')[y]? = some oy ∧ oy ≠ .dead ∧ (oy.live = true ∨ oy.isro = true) := by
          rcases h2 with h2 | h2
          · obtain ⟨o, q1, q2, q3⟩ := hnd1 y h2; exact ⟨o, q1, q2, .inl q3⟩
          · obtain ⟨o, q1, q2, q3⟩ := hnd2 y h2; exact ⟨o, q1, q2, .inr q3⟩
        obtain ⟨oy, hoy, hoyd, hoyl⟩ := hy2
        rcases horig x lx hx ox hox hoxd with ⟨a1, a2, a3, a4⟩ | ⟨x0, o0, a1, a2, a3, a4⟩
        · rcases horig y ly hy oy hoy hoyd with ⟨b1, b2, b3, b4⟩ | ⟨y0, p0, b1, b2, b3, b4⟩
          · exact r.inj x y lx ly a3 b3 ⟨ox, a4, hoxl⟩ (hoyl.imp (fun q => ⟨oy, b4, q⟩) (fun q => ⟨oy, b4, q⟩)) h3
          · exfalso
            subst b4
            rw [ren_live, ren_isro] at hoyl
            exact hmix y0 ly x lx b2 (hoyl.imp (fun q => ⟨p0, b3, q⟩) (fun q => ⟨p0, b3, q⟩)) a2 a3 (.inl ⟨ox, a4, hoxl⟩) (.inr ⟨ox, a4, hoxl⟩) h3.symm
        · subst a4
          rw [ren_live] at hoxl
          rcases horig y ly hy oy hoy hoyd with ⟨b1, b2, b3, b4⟩ | ⟨y0, p0, b1, b2, b3, b4⟩
          · exfalso
            exact hmix x0 lx y ly a2 (.inl ⟨o0, a3, hoxl⟩) b2 b3 (hoyl.imp (fun q => ⟨oy, b4, q⟩) (fun q => ⟨oy, b4, q⟩)) (.inl ⟨o0, a3, hoxl⟩) h3
          · subst b4
            rw [ren_live, ren_isro] at hoyl
            have := hr.inj x0 y0 lx ly a2 b2 ⟨o0, a3, hoxl⟩ (hoyl.imp (fun q => ⟨p0, b3, q⟩) (fun q => ⟨p0, b3, q⟩)) h3
            rw [← a1, ← b1, this]
    refine ⟨v0.ren κ, c, merge ids m H C', σ2, rfl, hv.ren hnames, ⟨v0, C', hq, rfl, rfl⟩, hrel, ?_⟩
    refine ⟨fun id hi => hσlo id hi, by rw [hlen2]; omega, hs.size, fun bl hb hn => hs.keep bl hb ?_, fun id l h1 h2 => ?_, fun id hi h2 => ?_, hs.rest, fun id l h1 h2 => ?_⟩
    · intro z lz k1 k2
      obtain ⟨hz, hzs⟩ := hbk z lz k1
      exact hn _ lz hzs (hemlive z k2)
    · obtain ⟨o, q1, q2, q3⟩ := hnd1 id h2
      rcases horig id l h1 o q1 q2 with ⟨a1, a2, a3, a4⟩ | ⟨x0, o0, a1, a2, a3, a4⟩
      · exact .inr ⟨id, l, a3, ⟨o, a4, q3⟩, rfl⟩
      · subst a4
        rw [ren_live] at q3
        rcases hs.fresh x0 l a2 ⟨o0, a3, q3⟩ with hf | ⟨z, lz, g1, g2, g3⟩
        · exact .inl hf
        · obtain ⟨hz, hzs⟩ := hbk z lz g1
          exact .inr ⟨_, lz, hzs, hemlive z g2, g3⟩
    · obtain ⟨o, q1, q2, q3⟩ := hnd1 id h2
      by_cases hin : id ∈ ids
      · obtain ⟨x, hx, rfl⟩ := hidx id hin
        rw [hat3 x hx] at q1
        by_cases hxm : x < m
        · rw [if_pos hxm] at q1
          have hxc : C'[x]? = some (C'[x]'(by omega)) := List.getElem?_eq_getElem _
          rw [hxc] at q1
          simp at q1
          refine hemlive x (hs.live x hxm ⟨_, hxc, ?_⟩)
          rw [← q1, ren_live] at q3
          exact q3
        · rw [if_neg hxm] at q1
          cases q1; exact absurd rfl q2
      · rw [hat2 id hi hin] at q1
        exact ⟨o, q1, q3⟩
    · obtain ⟨o, q1, q2, q3⟩ := hnd2 id h2
      rcases horig id l h1 o q1 q2 with ⟨a1, a2, a3, a4⟩ | ⟨x0, o0, a1, a2, a3, a4⟩
      · exact ⟨id, l, a3, ⟨o, a4, q3⟩, rfl⟩
      · subst a4
        rw [ren_isro] at q3
        obtain ⟨z, lz, g1, g2, g3⟩ := hs.ro x0 l a2 ⟨o0, a3, q3⟩
        obtain ⟨hz, hzs⟩ := hbk z lz g1
        exact ⟨_, lz, hzs, hemro z g2, g3⟩
  rcases h.2 _ w cs (r.emb hemb) (l.unren hvs) with ⟨g, h1, h2⟩ | ⟨c, w', h1, h2⟩
  · exact .inl ⟨g, h1, h2.mono key⟩
  · exact .inr ⟨c, w', h1, key _ _ h2⟩

def renEnv (ι : Nat → Nat) (ρ : Env) : Env := ρ.map fun x => (x.1, x.2.ren ι)
def wfEnv (m : Nat) (ρ : Env) : Bool := ρ.all fun x => x.2.wf m

theorem renEnv_get (ι : Nat → Nat) (ρ : Env) (t : Nat) : (renEnv ι ρ).get t = (ρ.get t).ren ι := by
  induction ρ with
  | nil => rfl
  | cons x ρ ih =>
    obtain ⟨k, v⟩ := x
    simp only [renEnv, List.map_cons, Env.get]
    split
    · rfl
    · exact ih
theorem wfEnv_get {m : Nat} {ρ : Env} (h : wfEnv m ρ = true) (t : Nat) : (ρ.get t).wf m = true := by
  induction ρ with
  | nil => rfl
  | cons x ρ ih =>
    obtain ⟨k, v⟩ := x
    simp only [wfEnv, List.all_cons, Bool.and_eq_true] at h
    simp only [Env.get]
    split
    · exact h.1
    · exact ih h.2

/-- THE STATE TOLD ANEW: other names, fewer objects. -/
theorem EvI.rename {N m : Nat} {ic : ICode} {ρ ρ0 : Env} {H C : Heap} {Q : Exit → Env → Heap → Prop} {ι : Nat → Nat} (he : Emb ι C H) (hm : m ≤ C.length) (hid : ∀ x, x < m → ι x = x) (hρ : ∀ t, ρ.get t = (renEnv ι ρ0).get t ∨ ρ0.get t = .u) (hw : wfEnv C.length ρ0 = true)
    (h : EvI P N m ic ρ0 C Q) : EvI P N m ic ρ H Q := by
  intro c hc ro hf b D σ w a hmH r ar mk hb
  have hbk : ∀ id l, back σ ι C.length id = some l → id < C.length ∧ σ (ι id) = some l := by
    intro id l hs
    unfold back at hs
    split at hs
    · rename_i hi; exact ⟨hi, hs⟩
    · cases hs
  have ar0 : ARel N D (back σ ι C.length) ρ0 a := by
    refine ⟨ar.size, ar.defers, fun t => ?_⟩
    rcases hρ t with q | q
    · have := ar.vals t
      rw [q, renEnv_get] at this
      exact VRel.unren (ι := ι) (fun id l hi hs => by simp [back, hi, hs]) _ this (wfEnv_get hw t)
    · rw [q]; exact .u _
  have mk0 : Mk b D (back σ ι C.length) C w := ⟨fun d hd => by
    obtain ⟨r, h1, h2, h3, h4⟩ := mk.at_ d hd
    refine ⟨r, h1, h2, h3, fun id l hs hl => h4 _ l (hbk id l hs).2 ?_⟩
    rcases hl with ⟨o, g1, g2⟩ | ⟨o, g1, g2⟩
    · exact .inl ⟨_, he.at_ id o g1, by rw [ren_live]; exact g2⟩
    · exact .inr ⟨_, he.at_ id o g1, by rw [ren_isro]; exact g2⟩, mk.apart⟩
  refine wpIn_mono (h c hc ro hf b D _ w a hm (r.emb he) ar0 mk0 hb) ?_
  rintro e a' w' ⟨ρ', H', σ', D', hq, hr, har, hk', hs⟩
  refine ⟨ρ', H', σ', D', hq, hr, har, hk', ?_⟩
  have hlv : ∀ x, Live C x → Live H (ι x) := by
    rintro x ⟨o, h1, h2⟩
    exact ⟨_, he.at_ x o h1, by rw [ren_live]; exact h2⟩
  have hro : ∀ x, Ro C x → Ro H (ι x) := by
    rintro x ⟨o, h1, h2⟩
    exact ⟨_, he.at_ x o h1, by rw [ren_isro]; exact h2⟩
  refine ⟨fun id hi => ?_, hs.len, hs.size, fun bl hb hn => hs.keep bl hb ?_, fun id l h1 h2 => ?_, fun id hi h2 => ?_, hs.rest, fun id l h1 h2 => ?_⟩
  · rw [hs.ext id hi]
    simp only [back]
    rw [if_pos (by omega), hid id hi]
  · intro z lz k1 k2
    exact hn _ lz (hbk z lz k1).2 (hlv z k2)
  · rcases hs.fresh id l h1 h2 with hf | ⟨z, lz, g1, g2, g3⟩
    · exact .inl hf
    · exact .inr ⟨_, lz, (hbk z lz g1).2, hlv z g2, g3⟩
  · have := hlv id (hs.live id hi h2)
    rwa [hid id hi] at this
  · obtain ⟨z, lz, g1, g2, g3⟩ := hs.ro id l h1 h2
    exact ⟨_, lz, (hbk z lz g1).2, hro z g2, g3⟩
end Go.Proofs.YtmdilnelogechaaDoor.Ev
/- A law's arguments as the abstract run sees them: slices that nobody writes to. -/
namespace Go.Proofs.YtmdilnelogechaaDoor.Ev
open Go Go.Deep Go.ChangeShapes Go.WideShapes

/-- A slice argument of n elements of sz cells each. -/
def SlArg (sv : Val) (id n sz : Nat) : Prop := (n = 0 ∧ sv = .nils) ∨ sv = .sl id 0 n sz

def CellsAt (W : World) (a : Addr) (c : List Val) : Prop := ∀ (j : Nat) (v : Val), c[j]? = some v → ∃ x, W.cell? (a.add j) = some x ∧ (∀ σ, VRel σ v x) ∧ x.oneCell' = true

theorem flat_get {α : Type} {vals : α → List Val} {k : Nat} (hk : ∀ x, (vals x).length = k) : ∀ (l : List α) (Q : Nat → Val → Prop), (∀ i x, l[i]? = some x → ∀ j v, (vals x)[j]? = some v → Q (i * k + j) v) → ∀ j v, (l.flatMap vals)[j]? = some v → Q j v
  | [], Q, h, j, v, hj => by simp at hj
  | x :: l, Q, h, j, v, hj => by
    simp only [List.flatMap_cons] at hj
    by_cases hlt : j < k
    · rw [List.getElem?_append_left (by rw [hk]; exact hlt)] at hj
      simpa using h 0 x rfl j v hj
    · rw [List.getElem?_append_right (by rw [hk]; omega), hk] at hj
      have := flat_get hk l (fun j v => Q (k + j) v) (fun i y hi j v hj => by
        have := h (i + 1) y (by simpa using hi) j v hj
        rw [Nat.add_mul, Nat.one_mul] at this
        show Q (k + (i * k + j)) v
        rw [show k + (i * k + j) = i * k + k + j by omega]
        exact this) (j - k) v hj
      rwa [show k + (j - k) = j by omega] at this

theorem flat_len {α : Type} {vals : α → List Val} {k : Nat} (hk : ∀ x, (vals x).length = k) : ∀ (l : List α), (l.flatMap vals).length = l.length * k
  | [] => by simp
  | x :: l => by simp only [List.flatMap_cons, List.length_append, hk, flat_len hk l, List.length_cons, Nat.add_mul, Nat.one_mul]; omega

/-- The elements of a row of cells, each taken as it is found. -/
theorem rows_of {α : Type} {vals : α → List Val} {k : Nat} (hk : ∀ x, (vals x).length = k) {wf : α → Prop} {W : World} {n : Nat} (a : Addr)
    (h : ∀ i, i < n → ∃ x : α, wf x ∧ CellsAt W (a.add (i * k)) (vals x)) : ∃ l : List α, n = l.length ∧ (∀ x ∈ l, wf x) ∧ CellsAt W a (l.flatMap vals) := by
  refine ⟨List.ofFn fun i : Fin n => Classical.choose (h i i.2), by simp, fun x hx => ?_, fun j v hj => ?_⟩
  · obtain ⟨i, rfl⟩ := List.mem_ofFn.1 hx
    exact (Classical.choose_spec (h i i.2)).1
  · refine flat_get hk _ (fun j v => ∃ x, W.cell? (a.add j) = some x ∧ (∀ σ, VRel σ v x) ∧ x.oneCell' = true) (fun i x hi j v hv => ?_) j v hj
    obtain ⟨hi', e⟩ := List.getElem?_eq_some_iff.1 hi
    rw [List.length_ofFn] at hi'
    rw [List.getElem_ofFn] at e
    subst e
    have := (Classical.choose_spec (h i hi')).2 j v hv
    rwa [add_add] at this

/-- What stands for a slice argument. -/
def ArgOk (W : World) (o : AObj) (x : Option Loc) : Prop :=
  ∃ c, o = .ro c ∧ ∀ l, x = some l → l.blk < W.heap.size ∧ l.base + c.length ≤ l.size ∧ CellsAt W ⟨l.blk, l.base, none⟩ c

def ArgsOk (W : World) : List AObj → List (Option Loc) → Prop
  | [], [] => True
  | o :: H, x :: ls => ArgOk W o x ∧ ArgsOk W H ls
  | _, _ => False

def namesOf (ls : List (Option Loc)) : Names := fun id => (ls[id]?).join

theorem ArgsOk.get {W : World} : ∀ {H : Heap} {ls : List (Option Loc)}, ArgsOk W H ls → H.length = ls.length ∧ ∀ (id : Nat) (o : AObj) (x : Option Loc), H[id]? = some o → ls[id]? = some x → ArgOk W o x
  | [], [], _ => ⟨rfl, fun id o x h => by simp at h⟩
  | o :: H, x :: ls, h => by
    obtain ⟨h1, h2⟩ := h
    have := h2.get
    refine ⟨by simp [this.1], fun id o x ho hx => ?_⟩
    cases id with
    | zero => simp at ho hx; subst ho; subst hx; exact h1
    | succ id => exact this.2 id o x (by simpa using ho) (by simpa using hx)
  | [], _ :: _, h => h.elim
  | _ :: _, [], h => h.elim

theorem ArgsOk.rel {W : World} {H : Heap} {ls : List (Option Loc)} (h : ArgsOk W H ls) (hf : FixW W := by intro x hx; simp [fixB] at hx) : Rel (namesOf ls) H W ∧ ∀ id, ¬ Live H id := by
  have hg := h.get
  have key : ∀ id l, namesOf ls id = some l → ls[id]? = some (some l) := by
    intro id l h
    unfold namesOf at h
    cases hx : ls[id]? with
    | none => simp [hx] at h
    | some y => simp [hx] at h; rw [h]
  have hlive : ∀ id, ¬ Live H id := by
    rintro id ⟨o, ho, hl⟩
    have hlt : id < ls.length := by rw [← hg.1]; exact (List.getElem?_eq_some_iff.1 ho).1
    obtain ⟨c, rfl, _⟩ := hg.2 id o _ ho (List.getElem?_eq_getElem hlt)
    simp [AObj.live] at hl
  refine ⟨⟨⟨?_, ?_, ?_, ?_⟩, fun x hx => ⟨(hf x hx).1, (hf x hx).2, fun id l _ h => absurd h (hlive id)⟩⟩, hlive⟩
  · intro id l hn
    have := key id l hn
    rw [hg.1]
    exact (List.getElem?_eq_some_iff.1 this).1
  · intro id l o hn ho
    obtain ⟨c, rfl, hc⟩ := hg.2 id o _ ho (key id l hn)
    obtain ⟨_, h2, h3⟩ := hc l rfl
    refine ⟨h2, fun j v hj => ?_⟩
    obtain ⟨x, h4, h5, h6⟩ := h3 j v hj
    have e : (⟨l.blk, l.base, none⟩ : Addr).add j = ⟨l.blk, l.base + j, none⟩ := by simp only [Addr.add]; split <;> simp_all
    exact ⟨x, e ▸ h4, h5 _, h6⟩
  · intro id l hn
    have hk := key id l hn
    have hlt : id < H.length := by rw [hg.1]; exact (List.getElem?_eq_some_iff.1 hk).1
    obtain ⟨c, _, hc⟩ := hg.2 id _ _ (List.getElem?_eq_getElem hlt) hk
    exact (hc l rfl).1
  · intro x y lx ly _ _ hl
    exact absurd hl (hlive x)

theorem slice_block {P : Program} {w : World} {r : Reach} {base : Nat} {t e : TypeId} {a : Addr} {len cap : Nat} (ht : P.underlying t = some (.slice e)) (h : Value.okWide P w r base t (.slice (some a) len cap)) :
    a.spot = none ∧ a.block < w.heap.size := by
  simp only [Value.okWide, ht, Cell.okWide, Cell.ok] at h
  obtain ⟨_, _, _, hs, row, cells, hc, _⟩ := h
  refine ⟨hs, ?_⟩
  unfold World.shape? at hc
  rcases Nat.lt_or_ge a.block w.heap.size with h' | h'
  · exact h'
  · rw [Array.getElem?_eq_none h'] at hc; cases hc

/-- A slice argument: its elements, the value and the object that stand for it. -/
theorem slice_arg {H : Type} {enc : TypeId × Value → H} {P : Program} {W : World} {r : Reach} {b0 base : Nat} {held : Bool} {t e : TypeId} {v : Value} {d : DataW H} {p : List MemPlace} {α : Type} {vals : α → List Val} {wf : α → Prop} {k : Nat}
    (hk : ∀ x, (vals x).length = k) (ht : P.underlying t = some (.slice e)) (he : P.cellsOf e = k) (id : Nat)
    (one : ∀ (n : Nat) (cs : List Value) (y : DataW H × List MemPlace), DataW.trod enc P W base (fun _ => true) held n e cs = some y → ∃ x : α, wf x ∧ ∀ (j : Nat) (u : Val), (vals x)[j]? = some u → ∃ c, cs[j]? = some c ∧ (∀ σ, VRel σ u c) ∧ c.oneCell' = true)
    (hv : Value.okWide P W r b0 t v) (h : DataW.Trod enc P W base (fun _ => true) held t v d p) :
    ∃ (l : List α) (sv : Val) (x : Option Loc), SlArg sv id l.length k ∧ (∀ σ : Names, σ id = x → VRel σ sv v) ∧ ArgOk W (.ro (l.flatMap vals)) x ∧ (∀ y ∈ l, wf y) ∧ l.length ≤ maxLen := by
  obtain ⟨a, len, cap, rfl⟩ := okWide_slice ht hv
  obtain ⟨fuel, hf⟩ := h
  rcases open_slice ht hf with ⟨hcs, _⟩ | ⟨ad, l, c, m, n, D, Pl, hcs, _, hl, hm, hmm, _, hi⟩
  · simp [Value.cells] at hcs
    obtain ⟨rfl, rfl, rfl⟩ := hcs
    exact ⟨[], .nils, none, .inl ⟨rfl, rfl⟩, fun σ _ => .nils, ⟨_, rfl, fun l h => by cases h⟩, fun _ h => by simp at h, by simp⟩
  · simp [Value.cells] at hcs
    obtain ⟨rfl, rfl, rfl⟩ := hcs
    simp only [if_true] at hmm
    subst hmm
    obtain ⟨hs, hb⟩ := slice_block ht hv
    obtain ⟨bl, off, sp⟩ := ad
    simp only at hs hb
    subst hs
    obtain ⟨ls, e1, hw, hc⟩ := rows_of hk (wf := wf) (W := W) (n := len) ⟨bl, off, none⟩ (fun i hi' => by
      obtain ⟨cs, hc, htr⟩ := hi i (by omega)
      rw [he] at hc
      obtain ⟨x, hx, hxs⟩ := one _ _ _ htr
      obtain ⟨_, hlen, hat⟩ := World.cells?_some hc
      refine ⟨x, hx, fun j u hu => ?_⟩
      obtain ⟨c, h1, h2, h3⟩ := hxs j u hu
      exact ⟨c, (hat j (by rw [← hlen]; exact (List.getElem?_eq_some_iff.1 h1).1)).trans h1, h2, h3⟩)
    subst e1
    refine ⟨ls, .sl id 0 ls.length k, some ⟨bl, off, off + m * k⟩, .inr rfl, fun σ hσ => .sl hσ hl (Nat.le_refl _) (fun _ => rfl), ⟨_, rfl, fun l h => ?_⟩, hw, by omega⟩
    cases h
    refine ⟨hb, ?_, hc⟩
    simp only [flat_len hk]
    have := Nat.mul_le_mul_right k hl
    omega

theorem LRel.nil (σ : Names) : LRel σ [] #[] := ⟨rfl, fun j v x h => by simp at h⟩
def Each (σ : Names) : List Val → List Value → Prop
  | [], [] => True
  | v :: l, c :: r => VRel σ v c ∧ Each σ l r
  | _, _ => False
theorem LRel.list {σ : Names} : ∀ {l : List Val} {c : List Value}, Each σ l c → LRel σ l c.toArray
  | [], [], _ => ⟨rfl, fun j v x h => by simp at h⟩
  | v :: l, c :: r, h => by
    have ih := LRel.list h.2
    refine ⟨by simpa using ih.1, fun j v x hj hxj => ?_⟩
    cases j with
    | zero => simp at hj hxj; subst hj; subst hxj; exact h.1
    | succ j => exact ih.2 j v x (by simpa using hj) (by simpa using hxj)
  | [], _ :: _, h => h.elim
  | _ :: _, [], h => h.elim
theorem aggRel {σ : Names} {l : List Val} {c : List Value} (h : Each σ l c) : VRel σ (.agg l) (.agg c.toArray) := .agg (LRel.list h).1 (LRel.list h).2
end Go.Proofs.YtmdilnelogechaaDoor.Ev
