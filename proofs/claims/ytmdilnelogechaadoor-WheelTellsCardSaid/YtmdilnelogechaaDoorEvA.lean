/- This text of the evaluator proves: values, objects and memory of the runs told here, and what the single operations do there. No condition. -/
import Derived.Calls
import Derived.Laws.Sem
import Derived.Laws.Append
import Derived.Laws.IdiomCopy
import Derived.Laws.Cells
set_option linter.unusedVariables false
set_option linter.unusedSimpArgs false
set_option linter.constructorNameAsVariable false
/- The abstract state of a run: values that name their blocks, a list of objects, what each stands for in the world. -/
namespace Go.Proofs.YtmdilnelogechaaDoor.Ev
open Go

/-- A value whose blocks are names of objects. -/
inductive Val where
  | u
  | b (x : Bool)
  | i (k : IntKind) (n : Int)
  | s (x : ByteArray)
  | nilp
  | p (id off : Nat)
  | nils
  | sl (id off len sz : Nat)
  | nilm
  | m (id : Nat)
  | nilf
  | fn (f : Fn) (first captured : List Val)
  | nili
  | ifc (t : TypeId) (v : Val)
  | agg (cs : List Val)
  | tup (vs : List Val)
  | yld (id : Nat)
  deriving Inhabited

abbrev Env := List (Nat × Val)
def Env.get : Env → Nat → Val
  | [], _ => .u
  | (k, v) :: r, t => if k = t then v else Env.get r t

inductive AObj where
  | rw (c : List Val)
  | ro (c : List Val)
  | map (es : List (Nat × Val × Val)) (clock : Nat)
  | iter (mid since : Nat) (seen : List Nat) (last : Nat)
  | loop (st : LoopState) (pend : Option Code) (N : Nat) (ρ : Env) (ps : List Nat) (asg body : Code)
  | dead
  deriving Inhabited

abbrev Heap := List AObj

/-- Where an object stands: a block, its first cell there, the cells of that block. -/
structure Loc where
  blk : Nat
  base : Nat
  size : Nat

abbrev Names := Nat → Option Loc

inductive VRel (σ : Names) : Val → Value → Prop where
  | u (c : Value) : VRel σ .u c
  | b (x : Bool) : VRel σ (.b x) (.bool x)
  | i (k : IntKind) (n : Int) : VRel σ (.i k n) (.int k n)
  | s (x : ByteArray) : VRel σ (.s x) (.string x)
  | nilp : VRel σ .nilp (.pointer none)
  | p {id off : Nat} {l : Loc} (h : σ id = some l) : VRel σ (.p id off) (.pointer (some ⟨l.blk, l.base + off, none⟩))
  | nils : VRel σ .nils (.slice none 0 0)
  | sl {id off len sz oc cap : Nat} {l : Loc} (h : σ id = some l) (hl : len ≤ cap) (hs : oc + cap * sz ≤ l.size) (ho : len ≠ 0 → oc = l.base + off) :
      VRel σ (.sl id off len sz) (.slice (some ⟨l.blk, oc, none⟩) len cap)
  | nilm : VRel σ .nilm (.map none)
  | m {id : Nat} {l : Loc} (h : σ id = some l) : VRel σ (.m id) (.map (some l.blk))
  | nilf : VRel σ .nilf .nilFunc
  | fn (f : Fn) {a b : List Val} {a' b' : Array Value} (ha : a.length = a'.size) (hb : b.length = b'.size)
      (ra : ∀ (j : Nat) (v : Val) (c : Value), a[j]? = some v → a'[j]? = some c → VRel σ v c) (rb : ∀ (j : Nat) (v : Val) (c : Value), b[j]? = some v → b'[j]? = some c → VRel σ v c) :
      VRel σ (.fn f a b) (.func f a' b')
  | nili : VRel σ .nili .nilIface
  | ifc (t : TypeId) {v : Val} {c : Value} (h : VRel σ v c) : VRel σ (.ifc t v) (.iface t c)
  | agg {a : List Val} {a' : Array Value} (ha : a.length = a'.size) (ra : ∀ (j : Nat) (v : Val) (c : Value), a[j]? = some v → a'[j]? = some c → VRel σ v c) : VRel σ (.agg a) (.agg a')
  | tup {a : List Val} {a' : Array Value} (ha : a.length = a'.size) (ra : ∀ (j : Nat) (v : Val) (c : Value), a[j]? = some v → a'[j]? = some c → VRel σ v c) : VRel σ (.tup a) (.tuple a')
  | yld {id : Nat} {l : Loc} (h : σ id = some l) : VRel σ (.yld id) (.func (.yield l.blk) #[] #[])

/-- One list stands for another, place by place. -/
def LRel (σ : Names) (a : List Val) (c : Array Value) : Prop :=
  a.length = c.size ∧ ∀ (j : Nat) (v : Val) (x : Value), a[j]? = some v → c[j]? = some x → VRel σ v x

def Names.le (σ τ : Names) : Prop := ∀ id l, σ id = some l → τ id = some l

theorem Names.le_refl (σ : Names) : σ.le σ := fun _ _ h => h
theorem Names.le_trans {σ τ υ : Names} (h : σ.le τ) (k : τ.le υ) : σ.le υ := fun id l x => k id l (h id l x)

theorem VRel.mono {σ τ : Names} (hle : σ.le τ) {v : Val} {c : Value} (h : VRel σ v c) : VRel τ v c := by
  induction h with
  | u c => exact .u c
  | b x => exact .b x
  | i k n => exact .i k n
  | s x => exact .s x
  | nilp => exact .nilp
  | p h => exact .p (hle _ _ h)
  | nils => exact .nils
  | sl h hl hs ho => exact .sl (hle _ _ h) hl hs ho
  | nilm => exact .nilm
  | m h => exact .m (hle _ _ h)
  | nilf => exact .nilf
  | fn f ha hb _ _ ra rb => exact .fn f ha hb ra rb
  | nili => exact .nili
  | ifc t _ ih => exact .ifc t ih
  | agg ha _ ra => exact .agg ha ra
  | tup ha _ ra => exact .tup ha ra
  | yld h => exact .yld (hle _ _ h)

theorem LRel.mono {σ τ : Names} (hle : σ.le τ) {a : List Val} {c : Array Value} (h : LRel σ a c) : LRel τ a c :=
  ⟨h.1, fun j v x p q => (h.2 j v x p q).mono hle⟩

def AObj.live : AObj → Bool
  | .rw _ => true
  | .map _ _ => true
  | .iter _ _ _ _ => true
  | .loop _ _ _ _ _ _ _ => true
  | _ => false

def AObj.isro : AObj → Bool
  | .ro _ => true
  | _ => false

/-- A map: its entries, each with the number that it was born with. -/
def MRel (σ : Names) (w : World) (es : List (Nat × Val × Val)) (clock : Nat) (l : Loc) : Prop :=
  ∃ E : Array MapEntry, w.heap[l.blk]? = some (.map E clock) ∧ es.length = E.size ∧
    ∀ (j : Nat) (x : Nat × Val × Val) (e : MapEntry), es[j]? = some x → E[j]? = some e → e.born = x.1 ∧ VRel σ x.2.1 e.key ∧ VRel σ x.2.2 e.val
/-- What goes over a map. -/
def IRel (σ : Names) (w : World) (mid since : Nat) (seen : List Nat) (last : Nat) (l : Loc) : Prop :=
  l.base = 0 ∧ ∃ lm, σ mid = some lm ∧ w.heap[l.blk]? = some (.mapIter (some lm.blk) since seen.toArray last)

/-- What a loop over a function keeps of its round. -/
def LpRel (σ : Names) (w : World) (st : LoopState) (pend : Option Code) (N : Nat) (ρ : Env) (ps : List Nat) (asg body : Code) (l : Loc) : Prop :=
  ∃ r : Loop, w.heap[l.blk]? = some (.loop r) ∧ r.state = st ∧ r.pending = pend ∧ r.params.toList = ps ∧ r.assign = asg ∧ r.body = body ∧ r.tmps.size = N ∧ ∀ t, VRel σ (ρ.get t) (r.tmps.getD t undef)

def ORel (σ : Names) (w : World) : AObj → Loc → Prop
  | .dead, _ => True
  | .ro c, l => l.base + c.length ≤ l.size ∧ ∀ (j : Nat) (v : Val), c[j]? = some v → ∃ x, w.cell? ⟨l.blk, l.base + j, none⟩ = some x ∧ VRel σ v x ∧ x.oneCell' = true
  | .rw c, l => (l.base + c.length ≤ l.size ∧ ∀ (j : Nat) (v : Val), c[j]? = some v → ∃ x, w.cell? ⟨l.blk, l.base + j, none⟩ = some x ∧ VRel σ v x ∧ x.oneCell' = true) ∧
      ∀ o, o < l.size → (∃ x, w.cell? ⟨l.blk, o, none⟩ = some x) ∧ w.frozen? ⟨l.blk, o, none⟩ = false
  | .map es ck, l => MRel σ w es ck l
  | .iter mid since seen last, l => IRel σ w mid since seen last l
  | .loop st pend N ρ ps asg body, l => LpRel σ w st pend N ρ ps asg body l

def Live (H : Heap) (id : Nat) : Prop := ∃ o, H[id]? = some o ∧ o.live = true
def Ro (H : Heap) (id : Nat) : Prop := ∃ o, H[id]? = some o ∧ o.isro = true

/-- The cells of package variables that are only read, as they were laid: blocks, and what stands there. -/
def fixB : List (Nat × List Value) := [(2, [0, 1, 56, 2, 57, 49, 28, 3, 61, 58, 42, 50, 38, 29, 17, 4, 62, 47, 59, 36, 45, 43, 51, 22, 53, 39, 33, 30, 24, 18, 12, 5, 63, 55, 48, 27, 60, 41, 37, 16, 46, 35, 44, 21, 52, 32, 23, 11, 54, 26, 40, 15, 34, 20, 31, 10, 25, 14, 19, 9, 13, 8, 7, 6].map (Value.int .u8))]
def FixW (w : World) : Prop := ∀ x ∈ fixB, x.1 < w.heap.size ∧ ∀ (j : Nat) (v : Value), x.2[j]? = some v → w.cell? ⟨x.1, j, none⟩ = some v
def Fix (σ : Names) (H : Heap) (w : World) : Prop :=
  ∀ x ∈ fixB, x.1 < w.heap.size ∧ (∀ (j : Nat) (v : Value), x.2[j]? = some v → w.cell? ⟨x.1, j, none⟩ = some v) ∧ ∀ id l, σ id = some l → Live H id → l.blk ≠ x.1

structure Rel0 (σ : Names) (H : Heap) (w : World) : Prop where
  dom : ∀ id l, σ id = some l → id < H.length
  obj : ∀ id l o, σ id = some l → H[id]? = some o → ORel σ w o l
  blk : ∀ id l, σ id = some l → l.blk < w.heap.size
  inj : ∀ x y lx ly, σ x = some lx → σ y = some ly → Live H x → (Live H y ∨ Ro H y) → lx.blk = ly.blk → x = y

structure Rel (σ : Names) (H : Heap) (w : World) : Prop extends Rel0 σ H w where
  fix : Fix σ H w

/-- What a run leaves: the names below m stay, blocks that nothing live stands for are as they were. -/
structure StepM (m : Nat) (σ : Names) (H : Heap) (w : World) (σ' : Names) (H' : Heap) (w' : World) : Prop where
  ext : ∀ id, id < m → σ' id = σ id
  len : m ≤ H'.length
  size : w.heap.size ≤ w'.heap.size
  keep : ∀ bl, bl < w.heap.size → (∀ id l, σ id = some l → Live H id → l.blk ≠ bl) → w'.heap[bl]? = w.heap[bl]?
  fresh : ∀ id l, σ' id = some l → Live H' id → w.heap.size ≤ l.blk ∨ ∃ x lx, σ x = some lx ∧ Live H x ∧ lx.blk = l.blk
  live : ∀ id, id < m → Live H' id → Live H id
  rest : w'.os = w.os ∧ w'.tape = w.tape ∧ w'.output = w.output
  ro : ∀ id l, σ' id = some l → Ro H' id → ∃ x lx, σ x = some lx ∧ Ro H x ∧ lx.blk = l.blk

abbrev Step (σ : Names) (H : Heap) (w : World) (σ' : Names) (H' : Heap) (w' : World) : Prop := StepM H.length σ H w σ' H' w'

theorem StepM.of {m : Nat} {σ : Names} {H : Heap} {w : World} {σ' : Names} {H' : Heap} {w' : World} (ext : ∀ id, id < m → σ' id = σ id) (len : m ≤ H'.length) (size : w.heap.size ≤ w'.heap.size)
    (keep : ∀ bl, bl < w.heap.size → (∀ id l, σ id = some l → Live H id → l.blk ≠ bl) → w'.heap[bl]? = w.heap[bl]?)
    (fresh : ∀ id l, m ≤ id → σ' id = some l → Live H' id → w.heap.size ≤ l.blk ∨ ∃ x lx, σ x = some lx ∧ Live H x ∧ lx.blk = l.blk)
    (live : ∀ id, id < m → Live H' id → Live H id) (rest : w'.os = w.os ∧ w'.tape = w.tape ∧ w'.output = w.output)
    (ro : ∀ id, Ro H' id → id < m ∧ Ro H id) : StepM m σ H w σ' H' w' :=
  ⟨ext, len, size, keep, fun id l h1 h2 => by
    by_cases hi : id < m
    · exact .inr ⟨id, l, by rw [← ext id hi]; exact h1, live id hi h2, rfl⟩
    · exact fresh id l (by omega) h1 h2, live, rest, fun id l h1 h2 => ⟨id, l, by rw [← ext id (ro id h2).1]; exact h1, (ro id h2).2, rfl⟩⟩

theorem StepM.refl (m : Nat) (σ : Names) (H : Heap) (w : World) (hm : m ≤ H.length) : StepM m σ H w σ H w where
  ext _ _ := rfl
  len := hm
  size := Nat.le_refl _
  keep _ _ _ := rfl
  fresh id l hs hl := .inr ⟨id, l, hs, hl, rfl⟩
  live _ _ h := h
  rest := ⟨rfl, rfl, rfl⟩
  ro id l hs hl := ⟨id, l, hs, hl, rfl⟩

theorem Step.refl (σ : Names) (H : Heap) (w : World) (_ : ∀ id l, σ id = some l → id < H.length) : Step σ H w σ H w := StepM.refl _ σ H w (Nat.le_refl _)

theorem StepM.le {σ σ' : Names} {H H' : Heap} {w w' : World} (h : Step σ H w σ' H' w') (hd : ∀ id l, σ id = some l → id < H.length) : σ.le σ' :=
  fun id l hs => by rw [h.ext id (hd id l hs)]; exact hs

theorem StepM.trans' {m m₁ : Nat} {σ σ₁ σ₂ : Names} {H H₁ H₂ : Heap} {w w₁ w₂ : World} (h : StepM m σ H w σ₁ H₁ w₁) (k : StepM m₁ σ₁ H₁ w₁ σ₂ H₂ w₂) (hm : m ≤ m₁) : StepM m σ H w σ₂ H₂ w₂ where
  ext id hi := by rw [k.ext id (Nat.lt_of_lt_of_le hi hm), h.ext id hi]
  len := Nat.le_trans hm k.len
  size := Nat.le_trans h.size k.size
  keep bl hb hn := by
    rw [k.keep bl (Nat.lt_of_lt_of_le hb h.size) ?_, h.keep bl hb hn]
    intro id l hs hl
    rcases h.fresh id l hs hl with hf | ⟨x, lx, h1, h2, h3⟩
    · omega
    · rw [← h3]; exact hn x lx h1 h2
  fresh id l hs hl := by
    rcases k.fresh id l hs hl with hf | ⟨x, lx, h2, h3, h4⟩
    · exact .inl (Nat.le_trans h.size hf)
    · rcases h.fresh x lx h2 h3 with hf | ⟨y, ly, g1, g2, g3⟩
      · exact .inl (by omega)
      · exact .inr ⟨y, ly, g1, g2, by omega⟩
  live id hi hl := h.live id hi (k.live id (Nat.lt_of_lt_of_le hi hm) hl)
  rest := ⟨k.rest.1.trans h.rest.1, k.rest.2.1.trans h.rest.2.1, k.rest.2.2.trans h.rest.2.2⟩
  ro id l hs hl := by
    obtain ⟨x, lx, h1, h2, h3⟩ := k.ro id l hs hl
    obtain ⟨y, ly, g1, g2, g3⟩ := h.ro x lx h1 h2
    exact ⟨y, ly, g1, g2, by omega⟩

theorem StepM.trans {σ σ₁ σ₂ : Names} {H H₁ H₂ : Heap} {w w₁ w₂ : World} (h : Step σ H w σ₁ H₁ w₁) (k : Step σ₁ H₁ w₁ σ₂ H₂ w₂) : Step σ H w σ₂ H₂ w₂ := StepM.trans' h k h.len

/-- A draw changes nothing that is told here. -/
theorem Rel.drawn {σ : Names} {H : Heap} {w : World} (h : Rel σ H w) (n : Nat) : Rel σ H { w with drawn := n } :=
  { dom := h.dom, obj := fun id l o a b => by
      have := h.obj id l o a b
      cases o <;> exact this
    blk := h.blk, inj := h.inj, fix := h.fix }

-- the world's cells
theorem cell_congr {w w' : World} {bl o : Nat} (h : w'.heap[bl]? = w.heap[bl]?) : w'.cell? ⟨bl, o, none⟩ = w.cell? ⟨bl, o, none⟩ := by
  simp only [World.cell?, h]
/-- What stays but for what is live keeps the fixed blocks. -/
theorem Fix.step {m : Nat} {σ σ' : Names} {H H' : Heap} {w w' : World} (h : Fix σ H w) (s : StepM m σ H w σ' H' w') : Fix σ' H' w' := by
  intro x hx
  obtain ⟨h1, h2, h3⟩ := h x hx
  refine ⟨Nat.lt_of_lt_of_le h1 s.size, fun j v hj => ?_, fun id l hs hl => ?_⟩
  · rw [cell_congr (s.keep x.1 h1 h3)]; exact h2 j v hj
  · rcases s.fresh id l hs hl with hf | ⟨y, ly, g1, g2, g3⟩
    · omega
    · rw [← g3]; exact h3 y ly g1 g2
theorem Rel.with {m : Nat} {σ σ' : Names} {H H' : Heap} {w w' : World} (r : Rel σ H w) (h : Rel0 σ' H' w' ∧ StepM m σ H w σ' H' w') : Rel σ' H' w' ∧ StepM m σ H w σ' H' w' := ⟨⟨h.1, r.fix.step h.2⟩, h.2⟩
theorem frozen_congr {w w' : World} {bl o : Nat} (h : w'.heap[bl]? = w.heap[bl]?) : w'.frozen? ⟨bl, o, none⟩ = w.frozen? ⟨bl, o, none⟩ := by
  simp only [World.frozen?, h]
theorem ORel.congr {σ : Names} {w w' : World} {o : AObj} {l : Loc} (h : w'.heap[l.blk]? = w.heap[l.blk]?) (r : ORel σ w o l) : ORel σ w' o l := by
  cases o with
  | dead => trivial
  | ro c => exact ⟨r.1, fun j v hj => by rw [cell_congr h]; exact r.2 j v hj⟩
  | rw c => exact ⟨⟨r.1.1, fun j v hj => by rw [cell_congr h]; exact r.1.2 j v hj⟩, fun o ho => by rw [cell_congr h, frozen_congr h]; exact r.2 o ho⟩
  | map es ck => obtain ⟨E, h1, h2⟩ := r; exact ⟨E, by rw [h]; exact h1, h2⟩
  | iter mid since seen last => obtain ⟨h0, lm, h1, h2⟩ := r; exact ⟨h0, lm, h1, by rw [h]; exact h2⟩
  | loop st pend N ρ ps asg body => obtain ⟨q, h1, h2⟩ := r; exact ⟨q, by rw [h]; exact h1, h2⟩
theorem MRel.mono {σ τ : Names} (hle : σ.le τ) {w : World} {es : List (Nat × Val × Val)} {ck : Nat} {l : Loc} (r : MRel σ w es ck l) : MRel τ w es ck l := by
  obtain ⟨E, h1, h2, h3⟩ := r
  exact ⟨E, h1, h2, fun j x e a b => ⟨(h3 j x e a b).1, (h3 j x e a b).2.1.mono hle, (h3 j x e a b).2.2.mono hle⟩⟩
theorem IRel.mono {σ τ : Names} (hle : σ.le τ) {w : World} {mid since last : Nat} {seen : List Nat} {l : Loc} (r : IRel σ w mid since seen last l) : IRel τ w mid since seen last l := by
  obtain ⟨h0, lm, h1, h2⟩ := r
  exact ⟨h0, lm, hle _ _ h1, h2⟩
theorem ORel.mono {σ τ : Names} (hle : σ.le τ) {w : World} {o : AObj} {l : Loc} (r : ORel σ w o l) : ORel τ w o l := by
  cases o with
  | dead => trivial
  | ro c => exact ⟨r.1, fun j v hj => let ⟨x, h1, h2, h3⟩ := r.2 j v hj; ⟨x, h1, h2.mono hle, h3⟩⟩
  | rw c => exact ⟨⟨r.1.1, fun j v hj => let ⟨x, h1, h2, h3⟩ := r.1.2 j v hj; ⟨x, h1, h2.mono hle, h3⟩⟩, r.2⟩
  | map es ck => exact MRel.mono hle r
  | iter mid since seen last => exact IRel.mono hle r
  | loop st pend N ρ ps asg body => obtain ⟨q, h1, h2, h3, h4, h5, h6, h7, h8⟩ := r; exact ⟨q, h1, h2, h3, h4, h5, h6, h7, fun t => (h8 t).mono hle⟩

theorem heap_set_other {w : World} {a : Addr} {v : Value} {bl : Nat} (h : bl ≠ a.block) : (w.setCell a v).heap[bl]? = w.heap[bl]? := by
  simp only [World.setCell, Array.getElem?_modify]
  rw [if_neg (Ne.symm h)]
theorem heap_set_size {w : World} {a : Addr} {v : Value} : (w.setCell a v).heap.size = w.heap.size := by simp [World.setCell]
theorem cell_set_same {w : World} {bl o : Nat} {v x : Value} (h : w.cell? ⟨bl, o, none⟩ = some x) : (w.setCell ⟨bl, o, none⟩ v).cell? ⟨bl, o, none⟩ = some v := by
  simp only [World.cell?, World.setCell, Array.getElem?_modify, if_true] at h ⊢
  cases hb : w.heap[bl]? with
  | none => simp [hb] at h
  | some ob =>
    cases ob with
    | cells c e f =>
      simp [hb] at h ⊢
      have : o < c.size := by
        rcases Nat.lt_or_ge o c.size with h' | h'
        · exact h'
        · simp [Array.getElem?_eq_none h'] at h
      simp [this]
    | _ => simp [hb] at h
theorem cell_set_ne {w : World} {bl o o' : Nat} {v : Value} (h : o ≠ o') : (w.setCell ⟨bl, o, none⟩ v).cell? ⟨bl, o', none⟩ = w.cell? ⟨bl, o', none⟩ := by
  simp only [World.cell?, World.setCell, Array.getElem?_modify, if_true]
  cases hb : w.heap[bl]? with
  | none => rfl
  | some ob =>
    cases ob with
    | cells c e f => simp [Array.getElem?_setIfInBounds, h]
    | _ => rfl
theorem frozen_set {w : World} {bl o o' : Nat} {v : Value} : (w.setCell ⟨bl, o, none⟩ v).frozen? ⟨bl, o', none⟩ = w.frozen? ⟨bl, o', none⟩ := by
  simp only [World.frozen?, World.setCell, Array.getElem?_modify, if_true]
  cases hb : w.heap[bl]? with
  | none => rfl
  | some ob => cases ob <;> rfl

end Go.Proofs.YtmdilnelogechaaDoor.Ev
/- What making, storing and appending do to the relation of the abstract state and the world. -/
namespace Go.Proofs.YtmdilnelogechaaDoor.Ev
open Go

def Names.add (σ : Names) (id : Nat) (l : Loc) : Names := fun x => if x = id then some l else σ x
theorem Names.le_add {σ : Names} {id : Nat} {l : Loc} (h : σ id = none) : σ.le (σ.add id l) := by
  intro x y hx
  unfold Names.add
  rw [if_neg (by rintro rfl; rw [h] at hx; cases hx)]
  exact hx
theorem Names.add_same (σ : Names) (id : Nat) (l : Loc) : σ.add id l id = some l := by simp [Names.add]
theorem Names.add_ne {σ : Names} {id x : Nat} {l : Loc} (h : x ≠ id) : σ.add id l x = σ x := by simp [Names.add, h]

theorem Rel.none_at {σ : Names} {H : Heap} {w : World} (h : Rel σ H w) {id : Nat} (hi : H.length ≤ id) : σ id = none := by
  cases hs : σ id with
  | none => rfl
  | some l => exact absurd (h.dom id l hs) (by omega)

/-- A new object on a new block. -/
theorem Rel.alloc {σ : Names} {H : Heap} {w : World} (r : Rel σ H w) {l : List Val} {cs : Array Value} {e : TypeId}
    (hlen : l.length ≤ cs.size) (hr : ∀ (j : Nat) (v : Val) (x : Value), l[j]? = some v → cs[j]? = some x → VRel σ v x) (h1c : ∀ (j : Nat) (x : Value), j < l.length → cs[j]? = some x → x.oneCell' = true) {w' : World} (hw : w'.heap = w.heap.push (.cells cs e (0, 0))) (hrest : w'.os = w.os ∧ w'.tape = w.tape ∧ w'.output = w.output) :
    Rel (σ.add H.length ⟨w.heap.size, 0, cs.size⟩) (H ++ [.rw l]) w' ∧ Step σ H w (σ.add H.length ⟨w.heap.size, 0, cs.size⟩) (H ++ [.rw l]) w' := by
  have hno : σ H.length = none := r.none_at (Nat.le_refl _)
  have hle : σ.le (σ.add H.length ⟨w.heap.size, 0, cs.size⟩) := Names.le_add hno
  have hold : ∀ bl, bl < w.heap.size → w'.heap[bl]? = w.heap[bl]? := by
    intro bl hb
    rw [hw]
    simp [Array.getElem?_push, Nat.ne_of_lt hb]
  have hnew : w'.heap[w.heap.size]? = some (.cells cs e (0, 0)) := by rw [hw]; simp
  have hsz : w'.heap.size = w.heap.size + 1 := by rw [hw]; simp
  refine r.with ⟨⟨?_, ?_, ?_, ?_⟩, StepM.of ?_ ?_ ?_ ?_ ?_ ?_ hrest ?_⟩
  · intro id lo hs
    by_cases hi : id = H.length
    · subst hi; simp
    · rw [Names.add_ne hi] at hs
      have := r.dom id lo hs
      simp; omega
  · intro id lo o hs ho
    by_cases hi : id = H.length
    · subst hi
      rw [Names.add_same] at hs
      cases hs
      simp at ho
      subst ho
      refine ⟨⟨by simpa using hlen, fun j v hj => ?_⟩, fun o ho => ?_⟩
      · have hjl : j < l.length := by
          rcases Nat.lt_or_ge j l.length with h | h
          · exact h
          · simp [List.getElem?_eq_none h] at hj
        have hx : cs[j]? = some (cs[j]'(by omega)) := Array.getElem?_eq_getElem _
        refine ⟨cs[j]'(by omega), ?_, (hr j v _ hj hx).mono hle, h1c j _ hjl hx⟩
        simp [World.cell?, hnew, hx]
      · refine ⟨⟨cs[o]'ho, ?_⟩, ?_⟩
        · simp only [World.cell?, hnew]; simp [ho]
        · simp [World.frozen?, hnew]
    · rw [Names.add_ne hi] at hs
      have hd := r.dom id lo hs
      rw [List.getElem?_append_left hd] at ho
      exact ((r.obj id lo o hs ho).congr (hold _ (r.blk id lo hs))).mono hle
  · intro id lo hs
    by_cases hi : id = H.length
    · subst hi; rw [Names.add_same] at hs; cases hs; simp [hsz]
    · rw [Names.add_ne hi] at hs
      have := r.blk id lo hs
      omega
  · have hback : ∀ x, x ≠ H.length → x < (H ++ [AObj.rw l]).length → (H ++ [AObj.rw l])[x]? = H[x]? := by
      intro x hx hl
      simp at hl
      rw [List.getElem?_append_left (by omega)]
    intro x y lx ly hx hy hlx hly hb
    by_cases hx1 : x = H.length
    · by_cases hy1 : y = H.length
      · omega
      · rw [Names.add_ne hy1] at hy
        subst hx1
        rw [Names.add_same] at hx; cases hx
        have := r.blk y ly hy
        simp at hb; omega
    · rw [Names.add_ne hx1] at hx
      have hxd := r.dom x lx hx
      by_cases hy1 : y = H.length
      · subst hy1
        rw [Names.add_same] at hy; cases hy
        have := r.blk x lx hx
        simp at hb; omega
      · rw [Names.add_ne hy1] at hy
        have hyd := r.dom y ly hy
        refine r.inj x y lx ly hx hy ?_ ?_ hb
        · obtain ⟨o, h1, h2⟩ := hlx; rw [hback x hx1 (by simp; omega)] at h1; exact ⟨o, h1, h2⟩
        · rcases hly with ⟨o, h1, h2⟩ | ⟨o, h1, h2⟩
          · rw [hback y hy1 (by simp; omega)] at h1; exact .inl ⟨o, h1, h2⟩
          · rw [hback y hy1 (by simp; omega)] at h1; exact .inr ⟨o, h1, h2⟩
  · intro id hi; exact Names.add_ne (by omega)
  · simp
  · omega
  · intro bl hb _; exact hold bl hb
  · intro id lo hi hs hl
    by_cases h1 : id = H.length
    · subst h1; rw [Names.add_same] at hs; cases hs; exact .inl (Nat.le_refl _)
    · rw [Names.add_ne h1] at hs
      exact absurd (r.dom id lo hs) (by omega)
  · rintro id hi ⟨o, h1, h2⟩
    rw [List.getElem?_append_left hi] at h1
    exact ⟨o, h1, h2⟩
  · rintro id ⟨o, h1, h2⟩
    by_cases hi : id < H.length
    · rw [List.getElem?_append_left hi] at h1
      exact ⟨hi, o, h1, h2⟩
    · rw [List.getElem?_append_right (by omega)] at h1
      have : id - H.length = 0 := by
        rcases Nat.eq_zero_or_pos (id - H.length) with h | h
        · exact h
        · rw [List.getElem?_eq_none (by simp; omega)] at h1; cases h1
      rw [this] at h1
      simp at h1
      subst h1
      simp [AObj.isro] at h2

/-- One cell stored. -/
theorem Rel.set1 {σ : Names} {H : Heap} {w : World} (r : Rel σ H w) {id off : Nat} {lo : Loc} {c : List Val} {v : Val} {x : Value}
    (hs : σ id = some lo) (ho : H[id]? = some (.rw c)) (hoff : off < c.length) (hv : VRel σ v x) (h1c : x.oneCell' = true) :
    Rel σ (H.set id (.rw (c.set off v))) (w.setCell ⟨lo.blk, lo.base + off, none⟩ x) ∧
      Step σ H w σ (H.set id (.rw (c.set off v))) (w.setCell ⟨lo.blk, lo.base + off, none⟩ x) := by
  have hobj := r.obj id lo _ hs ho
  have hidl : id < H.length := r.dom id lo hs
  have hliv : Live H id := ⟨_, ho, rfl⟩
  have hlen : (H.set id (.rw (c.set off v))).length = H.length := by simp
  have hoth : ∀ y o, y ≠ id → (H.set id (.rw (c.set off v)))[y]? = some o → H[y]? = some o := by
    intro y o hy h
    rw [List.getElem?_set_ne (Ne.symm hy)] at h
    exact h
  have hlive : ∀ y, Live (H.set id (.rw (c.set off v))) y → Live H y := by
    rintro y ⟨o, h1, h2⟩
    by_cases hy : y = id
    · subst hy; exact hliv
    · exact ⟨o, hoth y o hy h1, h2⟩
  have hro : ∀ y, Ro (H.set id (.rw (c.set off v))) y → Ro H y := by
    rintro y ⟨o, h1, h2⟩
    by_cases hy : y = id
    · subst hy
      rw [List.getElem?_set_self (by simpa using hidl)] at h1
      cases h1; simp [AObj.isro] at h2
    · exact ⟨o, hoth y o hy h1, h2⟩
  refine r.with ⟨⟨?_, ?_, ?_, ?_⟩, StepM.of (fun _ _ => rfl) (by simp) (by rw [heap_set_size]; exact Nat.le_refl _) ?_ ?_ (fun y _ h => hlive y h) ⟨rfl, rfl, rfl⟩ (fun y h => ⟨by obtain ⟨o, h1, _⟩ := hro y h; exact (List.getElem?_eq_some_iff.1 h1).1, hro y h⟩)⟩
  · intro y l h; rw [hlen]; exact r.dom y l h
  · intro y l o hy h
    by_cases he : y = id
    · subst he
      rw [hs] at hy; cases hy
      rw [List.getElem?_set_self (by simpa using hidl)] at h
      cases h
      refine ⟨⟨by simpa using hobj.1.1, fun j u hj => ?_⟩, fun o ho' => ?_⟩
      · by_cases hjo : j = off
        · subst hjo
          rw [List.getElem?_set_self (by simpa using hoff)] at hj
          cases hj
          obtain ⟨old, h1, _⟩ := hobj.1.2 j _ (List.getElem?_eq_getElem hoff)
          exact ⟨x, cell_set_same h1, hv, h1c⟩
        · rw [List.getElem?_set_ne (Ne.symm hjo)] at hj
          obtain ⟨old, h1, h2, h3⟩ := hobj.1.2 j u hj
          exact ⟨old, by rw [cell_set_ne (by omega)]; exact h1, h2, h3⟩
      · obtain ⟨⟨old, h1⟩, h2⟩ := hobj.2 o ho'
        refine ⟨?_, by rw [frozen_set]; exact h2⟩
        by_cases hq : lo.base + off = o
        · subst hq; exact ⟨x, cell_set_same h1⟩
        · exact ⟨old, by rw [cell_set_ne hq]; exact h1⟩
    · have h' := hoth y o he h
      by_cases hk : o = .dead
      · subst hk; trivial
      · refine (r.obj y l o hy h').congr (heap_set_other ?_)
        intro hb
        have hyl : Live H y ∨ Ro H y := by
          cases o with
          | rw c => exact .inl ⟨_, h', rfl⟩
          | ro c => exact .inr ⟨_, h', rfl⟩
          | map es ck => exact .inl ⟨_, h', rfl⟩
          | iter a b c d => exact .inl ⟨_, h', rfl⟩
          | loop _ _ _ _ _ _ _ => exact .inl ⟨_, h', rfl⟩
          | dead => exact absurd rfl hk
        exact he (r.inj id y lo l hs hy hliv hyl hb.symm).symm
  · intro y l h; rw [heap_set_size]; exact r.blk y l h
  · intro a b la lb ha hb h1 h2 h3
    exact r.inj a b la lb ha hb (hlive a h1) (h2.imp (hlive b) (hro b)) h3
  · intro bl _ hn
    exact heap_set_other (fun h => hn id lo hs hliv h.symm)
  · intro y l hi h _
    exact absurd (r.dom y l h) (by omega)

/-- Cells stored one behind the other. -/
def wr (c : List Val) (off : Nat) : List Val → List Val
  | [] => c
  | v :: l => wr (c.set off v) (off + 1) l

theorem wr_length (c : List Val) (off : Nat) (l : List Val) : (wr c off l).length = c.length := by
  induction l generalizing c off with
  | nil => rfl
  | cons v l ih => rw [wr, ih]; simp

theorem set_set_H (H : Heap) (id : Nat) (a b : AObj) : (H.set id a).set id b = H.set id b := by simp

theorem Rel.setn {σ : Names} {id : Nat} {lo : Loc} : ∀ {l : List Val} {xs : List Value} {off : Nat} {H : Heap} {w : World} {c : List Val}, Rel σ H w →
    σ id = some lo → H[id]? = some (.rw c) → off + l.length ≤ c.length → l.length = xs.length → (∀ (j : Nat) (v : Val) (x : Value), l[j]? = some v → xs[j]? = some x → VRel σ v x) → (∀ x ∈ xs, x.oneCell' = true) →
    Rel σ (H.set id (.rw (wr c off l))) (w.setCells lo.blk (lo.base + off) xs) ∧ Step σ H w σ (H.set id (.rw (wr c off l))) (w.setCells lo.blk (lo.base + off) xs)
  | [], [], off, H, w, c, r, hs, ho, hb, hl, hv, h1c => by
    have : H.set id (.rw c) = H := by
      apply List.ext_getElem?
      intro j
      by_cases h : j = id
      · subst h
        have := r.dom j lo hs
        rw [List.getElem?_set_self this, ho]
      · rw [List.getElem?_set_ne (Ne.symm h)]
    simp only [wr, World.setCells, this]
    exact ⟨r, Step.refl _ _ _ r.dom⟩
  | [], x :: xs, off, H, w, c, r, hs, ho, hb, hl, hv, h1c => by simp at hl
  | v :: l, [], off, H, w, c, r, hs, ho, hb, hl, hv, h1c => by simp at hl
  | v :: l, x :: xs, off, H, w, c, r, hs, ho, hb, hl, hv, h1c => by
    simp at hb hl
    obtain ⟨r1, s1⟩ := r.set1 (off := off) hs ho (by omega) (hv 0 v x rfl rfl) (h1c x (by simp))
    have hid := r.dom id lo hs
    have := Rel.setn (l := l) (xs := xs) (off := off + 1) (c := c.set off v) r1 hs (by rw [List.getElem?_set_self (by simpa using hid)]) (by simp; omega) hl
      (fun j v x h1 h2 => hv (j + 1) v x (by simpa using h1) (by simpa using h2)) (fun y hy => h1c y (by simp [hy]))
    obtain ⟨r2, s2⟩ := this
    rw [set_set_H] at r2 s2
    exact ⟨r2, s1.trans s2⟩

/-- An object that is dead from now on. -/
theorem Rel.kill {σ : Names} {H : Heap} {w : World} (r : Rel σ H w) (id : Nat) : Rel σ (H.set id .dead) w ∧ Step σ H w σ (H.set id .dead) w := by
  have hold : ∀ (y : Nat) (o : AObj), (H.set id .dead)[y]? = some o → o ≠ .dead → H[y]? = some o := by
    intro y o h hn
    by_cases hy : id = y
    · subst hy
      by_cases hi : id < H.length
      · rw [List.getElem?_set_self hi] at h; cases h; exact absurd rfl hn
      · rw [List.getElem?_eq_none (by simpa using hi)] at h; cases h
    · rw [List.getElem?_set_ne hy] at h; exact h
  have hlive : ∀ y, Live (H.set id .dead) y → Live H y := by
    rintro y ⟨o, h1, h2⟩
    exact ⟨o, hold y o h1 (by rintro rfl; simp [AObj.live] at h2), h2⟩
  have hro : ∀ y, Ro (H.set id .dead) y → Ro H y := by
    rintro y ⟨o, h1, h2⟩
    exact ⟨o, hold y o h1 (by rintro rfl; simp [AObj.isro] at h2), h2⟩
  refine r.with ⟨⟨?_, ?_, r.blk, ?_⟩, StepM.of (fun _ _ => rfl) (by simp) (Nat.le_refl _) (fun _ _ _ => rfl) ?_ (fun y _ h => hlive y h) ⟨rfl, rfl, rfl⟩ (fun y h => ⟨by obtain ⟨o, h1, _⟩ := hro y h; exact (List.getElem?_eq_some_iff.1 h1).1, hro y h⟩)⟩
  · intro y l h; simpa using r.dom y l h
  · intro y l o hy h
    by_cases hk : o = .dead
    · subst hk; trivial
    · exact r.obj y l o hy (hold y o h hk)
  · intro a b la lb ha hb h1 h2 h3
    exact r.inj a b la lb ha hb (hlive a h1) (h2.imp (hlive b) (hro b)) h3
  · intro y l hi h _
    exact absurd (r.dom y l h) (by omega)

/-- A new name for cells of a block whose old name is dead; the block may have been written meanwhile. -/
theorem Rel.reuse {σ : Names} {H : Heap} {w w' : World} (r : Rel σ H w) {id : Nat} {lo : Loc} {c : List Val} (hs : σ id = some lo) (ho : H[id]? = some (.rw c))
    (hrest : w'.os = w.os ∧ w'.tape = w.tape ∧ w'.output = w.output) (hwsz : w'.heap.size = w.heap.size) (hwo : ∀ bl, bl ≠ lo.blk → w'.heap[bl]? = w.heap[bl]?) (hwc : ∀ o, o < lo.size → (∃ x, w'.cell? ⟨lo.blk, o, none⟩ = some x) ∧ w'.frozen? ⟨lo.blk, o, none⟩ = false)
    {l : List Val} {oc : Nat} (hoc : oc + l.length ≤ lo.size) (hl : ∀ (j : Nat) (v : Val), l[j]? = some v → ∃ x, w'.cell? ⟨lo.blk, oc + j, none⟩ = some x ∧ VRel σ v x ∧ x.oneCell' = true) :
    Rel (σ.add H.length ⟨lo.blk, oc, lo.size⟩) (H.set id .dead ++ [.rw l]) w' ∧ Step σ H w (σ.add H.length ⟨lo.blk, oc, lo.size⟩) (H.set id .dead ++ [.rw l]) w' := by
  have hno : σ H.length = none := r.none_at (Nat.le_refl _)
  have hle : σ.le (σ.add H.length ⟨lo.blk, oc, lo.size⟩) := Names.le_add hno
  have hidl := r.dom id lo hs
  have hliv : Live H id := ⟨_, ho, rfl⟩
  have hold : ∀ (y : Nat) (o : AObj), y < H.length → (H.set id .dead ++ [AObj.rw l])[y]? = some o → o ≠ .dead → H[y]? = some o ∧ y ≠ id := by
    intro y o hyl h hn
    rw [List.getElem?_append_left (by simpa using hyl)] at h
    by_cases hy : id = y
    · subst hy
      rw [List.getElem?_set_self hyl] at h; cases h; exact absurd rfl hn
    · rw [List.getElem?_set_ne hy] at h; exact ⟨h, Ne.symm hy⟩
  have hlive : ∀ y, y < H.length → Live (H.set id .dead ++ [AObj.rw l]) y → Live H y ∧ y ≠ id := by
    rintro y hy ⟨o, h1, h2⟩
    have := hold y o hy h1 (by rintro rfl; simp [AObj.live] at h2)
    exact ⟨⟨o, this.1, h2⟩, this.2⟩
  have hro : ∀ y, y < H.length → Ro (H.set id .dead ++ [AObj.rw l]) y → Ro H y := by
    rintro y hy ⟨o, h1, h2⟩
    exact ⟨o, (hold y o hy h1 (by rintro rfl; simp [AObj.isro] at h2)).1, h2⟩
  have hnewo : (H.set id .dead ++ [AObj.rw l])[H.length]? = some (.rw l) := by
    rw [List.getElem?_append_right (by simp)]; simp
  refine r.with ⟨⟨?_, ?_, ?_, ?_⟩, StepM.of ?_ ?_ (by omega) ?_ ?_ (fun y hy h => (hlive y hy h).1) hrest ?_⟩
  · intro y ly hy
    by_cases hi : y = H.length
    · subst hi; simp
    · rw [Names.add_ne hi] at hy
      have := r.dom y ly hy
      simp; omega
  · intro y ly o hy h
    by_cases hi : y = H.length
    · subst hi
      rw [Names.add_same] at hy; cases hy
      rw [hnewo] at h; cases h
      exact ⟨⟨by simpa using hoc, fun j v hj => let ⟨x, h1, h2, h3⟩ := hl j v hj; ⟨x, h1, h2.mono hle, h3⟩⟩, hwc⟩
    · rw [Names.add_ne hi] at hy
      by_cases hk : o = .dead
      · subst hk; trivial
      · obtain ⟨h', hne⟩ := hold y o (r.dom y ly hy) h hk
        refine ((r.obj y ly o hy h').congr (hwo _ ?_)).mono hle
        intro hb
        have hyl : Live H y ∨ Ro H y := by
          cases o with
          | rw c => exact .inl ⟨_, h', rfl⟩
          | ro c => exact .inr ⟨_, h', rfl⟩
          | map es ck => exact .inl ⟨_, h', rfl⟩
          | iter a b c d => exact .inl ⟨_, h', rfl⟩
          | loop _ _ _ _ _ _ _ => exact .inl ⟨_, h', rfl⟩
          | dead => exact absurd rfl hk
        exact hne (r.inj id y lo ly hs hy hliv hyl hb.symm).symm
  · intro y ly hy
    rw [hwsz]
    by_cases hi : y = H.length
    · subst hi; rw [Names.add_same] at hy; cases hy; exact r.blk id lo hs
    · rw [Names.add_ne hi] at hy; exact r.blk y ly hy
  · intro a b la lb ha hb h1 h2 h3
    by_cases hia : a = H.length
    · by_cases hib : b = H.length
      · omega
      · rw [Names.add_ne hib] at hb
        subst hia
        rw [Names.add_same] at ha; cases ha
        have hbd := r.dom b lb hb
        have hbid : b = id := (r.inj id b lo lb hs hb hliv (h2.imp (fun h => (hlive b hbd h).1) (hro b hbd)) h3).symm
        subst hbid
        rcases h2 with h2 | ⟨o, h4, h5⟩
        · exact absurd rfl (hlive b hbd h2).2
        · exact absurd rfl (hold b o hbd h4 (by rintro rfl; simp [AObj.isro] at h5)).2
    · rw [Names.add_ne hia] at ha
      have had := r.dom a la ha
      obtain ⟨h1a, h1b⟩ := hlive a had h1
      by_cases hib : b = H.length
      · subst hib
        rw [Names.add_same] at hb; cases hb
        exact absurd (r.inj a id la lo ha hs h1a (.inl hliv) h3) h1b
      · rw [Names.add_ne hib] at hb
        have hbd := r.dom b lb hb
        exact r.inj a b la lb ha hb h1a (h2.imp (fun h => (hlive b hbd h).1) (hro b hbd)) h3
  · intro y hy; exact Names.add_ne (by omega)
  · simp
  · intro bl _ hn; exact hwo bl (fun h => hn id lo hs hliv h.symm)
  · intro y ly hi hy hl'
    by_cases h1 : y = H.length
    · subst h1; rw [Names.add_same] at hy; cases hy; exact .inr ⟨id, lo, hs, hliv, rfl⟩
    · rw [Names.add_ne h1] at hy
      exact absurd (r.dom y ly hy) (by omega)
  · rintro y ⟨o, h1, h2⟩
    by_cases hi : y < H.length
    · exact ⟨hi, hro y hi ⟨o, h1, h2⟩⟩
    · by_cases hy : y = H.length
      · subst hy; rw [hnewo] at h1; cases h1; simp [AObj.isro] at h2
      · rw [List.getElem?_eq_none (by simp; omega)] at h1; cases h1

theorem rest_setCells (b : Nat) : ∀ (vs : List Value) (o : Nat) (w : World), (w.setCells b o vs).os = w.os ∧ (w.setCells b o vs).tape = w.tape ∧ (w.setCells b o vs).output = w.output
  | [], _, _ => ⟨rfl, rfl, rfl⟩
  | v :: r, o, w => rest_setCells b r (o + 1) (w.setCell ⟨b, o, none⟩ v)
theorem heap_setCells_size (b : Nat) : ∀ (vs : List Value) (o : Nat) (w : World), (w.setCells b o vs).heap.size = w.heap.size
  | [], _, _ => rfl
  | v :: r, o, w => by rw [World.setCells, heap_setCells_size b r, heap_set_size]
theorem heap_setCells_other (b : Nat) {bl : Nat} (h : bl ≠ b) : ∀ (vs : List Value) (o : Nat) (w : World), (w.setCells b o vs).heap[bl]? = w.heap[bl]?
  | [], _, _ => rfl
  | v :: r, o, w => by rw [World.setCells, heap_setCells_other b h r, heap_set_other h]
theorem frozen_setCells (b : Nat) {o' : Nat} : ∀ (vs : List Value) (o : Nat) (w : World), (w.setCells b o vs).frozen? ⟨b, o', none⟩ = w.frozen? ⟨b, o', none⟩
  | [], _, _ => rfl
  | v :: r, o, w => by rw [World.setCells, frozen_setCells b r, frozen_set]
theorem cell_setCells_out (b : Nat) {o' : Nat} : ∀ (vs : List Value) (o : Nat) (w : World), (o' < o ∨ o + vs.length ≤ o') → (w.setCells b o vs).cell? ⟨b, o', none⟩ = w.cell? ⟨b, o', none⟩
  | [], _, _, _ => rfl
  | v :: r, o, w, h => by
    simp at h
    rw [World.setCells, cell_setCells_out b r (o + 1) _ (by omega), cell_set_ne (by omega)]
theorem cell_setCells_in (b : Nat) : ∀ (vs : List Value) (o : Nat) (w : World) (j : Nat) (v : Value), vs[j]? = some v → (∀ k, k < vs.length → ∃ x, w.cell? ⟨b, o + k, none⟩ = some x) →
    (w.setCells b o vs).cell? ⟨b, o + j, none⟩ = some v
  | [], _, _, _, _, h, _ => by simp at h
  | u :: r, o, w, 0, v, h, hc => by
    simp at h; subst h
    obtain ⟨x, hx⟩ := hc 0 (by simp)
    rw [World.setCells, cell_setCells_out b r (o + 1) _ (by omega)]
    exact cell_set_same hx
  | u :: r, o, w, j + 1, v, h, hc => by
    rw [World.setCells]
    have := cell_setCells_in b r (o + 1) (w.setCell ⟨b, o, none⟩ u) j v (by simpa using h) (fun k hk => by
      obtain ⟨x, hx⟩ := hc (k + 1) (by simp; omega)
      exact ⟨x, by rw [cell_set_ne (by omega), show o + 1 + k = o + (k + 1) by omega]; exact hx⟩)
    rwa [show o + 1 + j = o + (j + 1) by omega] at this
end Go.Proofs.YtmdilnelogechaaDoor.Ev
/- The operations of the abstract run, and that the model's operations do the same. -/
namespace Go.Proofs.YtmdilnelogechaaDoor.Ev
open Go
variable {Df : List Deferred} {ro : Option Nat}

inductive Opd where
  | t (n : Nat)
  | c (v : Val)
  deriving Inhabited

def Opd.ev (ρ : Env) : Opd → Val
  | .t n => ρ.get n
  | .c v => v

structure ARel (N : Nat) (Df : List Deferred) (σ : Names) (ρ : Env) (a : Act) : Prop where
  size : a.tmps.size = N
  defers : a.defers = Df
  vals : ∀ t, VRel σ (ρ.get t) (a.tmps.getD t undef)

theorem ARel.mono {N : Nat} {σ τ : Names} {ρ : Env} {a : Act} (hle : σ.le τ) (h : ARel N Df σ ρ a) : ARel N Df τ ρ a :=
  ⟨h.size, h.defers, fun t => (h.vals t).mono hle⟩

theorem ARel.put {N : Nat} {σ : Names} {ρ : Env} {a : Act} (h : ARel N Df σ ρ a) {d : Nat} (hd : d < N) {v : Val} {c : Value} (hv : VRel σ v c) :
    ARel N Df σ ((d, v) :: ρ) (a.put (some d) c) := by
  refine ⟨by simpa [Act.put] using h.size, h.defers, fun t => ?_⟩
  simp only [Env.get, Act.put]
  by_cases ht : d = t
  · subst ht
    rw [if_pos rfl]
    have : (a.tmps.setIfInBounds d c).getD d undef = c := by simp [Array.getD, h.size, hd]
    rw [this]; exact hv
  · rw [if_neg ht]
    have : (a.tmps.setIfInBounds d c).getD t undef = a.tmps.getD t undef := by
      simp only [Array.getD_eq_getD_getElem?, Array.getElem?_setIfInBounds]
      rw [if_neg ht]
    rw [this]; exact h.vals t

def ofScalar : Value → Option Val
  | .bool b => some (.b b)
  | .int k n => some (.i k n)
  | .string s => some (.s s)
  | .pointer none => some .nilp
  | .slice none 0 0 => some .nils
  | .map none => some .nilm
  | .nilFunc => some .nilf
  | .nilIface => some .nili
  | _ => none

def ofScalars : List Value → Option (List Val)
  | [] => some []
  | c :: r => match ofScalar c, ofScalars r with
    | some v, some l => some (v :: l)
    | _, _ => none

def ofValue : Value → Option Val
  | .agg cs => (ofScalars cs.toList).map .agg
  | .tuple vs => if vs.size = 0 then some (.tup []) else none
  | v => ofScalar v

theorem ofScalar_rel (σ : Names) {c : Value} {v : Val} (h : ofScalar c = some v) : VRel σ v c := by
  unfold ofScalar at h
  split at h <;> cases h <;> constructor

theorem ofScalars_rel (σ : Names) : ∀ {cs : List Value} {l : List Val}, ofScalars cs = some l → l.length = cs.length ∧ ∀ (j : Nat) (v : Val) (x : Value), l[j]? = some v → cs[j]? = some x → VRel σ v x
  | [], l, h => by cases h; simp
  | c :: r, l, h => by
    simp only [ofScalars] at h
    cases h1 : ofScalar c with
    | none => simp [h1] at h
    | some v =>
      cases h2 : ofScalars r with
      | none => simp [h1, h2] at h
      | some m =>
        simp [h1, h2] at h
        subst h
        obtain ⟨a, b⟩ := ofScalars_rel σ h2
        refine ⟨by simp [a], fun j u x hj hx => ?_⟩
        cases j with
        | zero => simp at hj hx; subst hj; subst hx; exact ofScalar_rel σ h1
        | succ j => exact b j u x (by simpa using hj) (by simpa using hx)

theorem ofValue_rel (σ : Names) {c : Value} {v : Val} (h : ofValue c = some v) : VRel σ v c := by
  unfold ofValue at h
  split at h
  · rename_i cs
    cases h1 : ofScalars cs.toList with
    | none => simp [h1] at h
    | some l =>
      simp [h1] at h
      subst h
      obtain ⟨a, b⟩ := ofScalars_rel σ h1
      exact .agg (by simpa using a) (fun j v x hj hx => b j v x hj (by simpa using hx))
  · split at h
    · cases h; rename_i hz; exact .tup (by simp [hz]) (by simp)
    · cases h
  · exact ofScalar_rel σ h

def Val.one : Val → Bool
  | .u | .agg _ | .tup _ => false
  | _ => true

def Val.cells? : Val → Option (List Val)
  | .agg cs => if cs.all Val.one then some cs else none
  | v => if v.one then some [v] else none

theorem one_rel {σ : Names} {v : Val} {c : Value} (h : VRel σ v c) (h1 : v.one = true) : c.oneCell' = true ∧ c.cells = #[c] := by
  cases h <;> simp_all [Val.one, Value.oneCell', Value.cells]

theorem cells_rel {σ : Names} {v : Val} {c : Value} {l : List Val} (h : VRel σ v c) (hl : v.cells? = some l) :
    LRel σ l c.cells ∧ ∀ x ∈ c.cells.toList, x.oneCell' = true := by
  have single : v.one = true → l = [v] → LRel σ l c.cells ∧ ∀ x ∈ c.cells.toList, x.oneCell' = true := by
    intro h1 h2
    subst h2
    obtain ⟨a, b⟩ := one_rel h h1
    rw [b]
    refine ⟨⟨rfl, fun j u x hj hx => ?_⟩, by simpa using a⟩
    cases j with
    | zero => simp at hj hx; subst hj; subst hx; exact h
    | succ j => simp at hj
  cases v with
  | agg cs =>
    simp only [Val.cells?] at hl
    split at hl
    · rename_i hall
      obtain rfl : cs = l := by simpa using hl
      cases h with
      | agg ha ra =>
        refine ⟨⟨ha, ra⟩, fun x hx => ?_⟩
        obtain ⟨j, hj, hjx⟩ := List.getElem_of_mem hx
        simp only [Value.cells] at hj hjx
        have hj' : j < cs.length := by rw [ha]; simpa using hj
        have hv := ra j cs[j] x (List.getElem?_eq_getElem hj') (by simp at hj hjx; rw [Array.getElem?_eq_getElem hj, hjx])
        exact (one_rel hv (by simpa using (List.all_eq_true.1 hall) _ (List.getElem_mem hj'))).1
    · cases hl
  | u => simp [Val.cells?, Val.one] at hl
  | tup vs => simp [Val.cells?, Val.one] at hl
  | _ => exact single rfl (by simp [Val.cells?, Val.one] at hl; exact hl.symm)

def padTo (z : List Val) (ps : List (Nat × List Val)) : List Val := ps.foldl (fun c p => wr c p.1 p.2) z

def mk (z : List Val) (n : Nat) : List Val :=
  match z with
  | [x] => List.replicate n x
  | _ => (List.replicate n z).flatten

/-- A map's keys: numbers of one kind, bools, texts, structs of numbers. -/
inductive KK where
  | int (k : IntKind)
  | bool
  | str
  | st (ks : List IntKind)
  deriving Inhabited
def KK.desc : KK → TypeDesc
  | .int k => .int k
  | .bool => .bool
  | .str => .string
  | .st _ => .bool
def KK.of : TypeDesc → Option KK
  | .int k => some (.int k)
  | .bool => some .bool
  | .string => some .str
  | _ => none
def isKs : List IntKind → List Val → Bool
  | [], [] => true
  | k :: ks, .i k' _ :: vs => decide (k' = k) && isKs ks vs
  | _, _ => false
def isK : KK → Val → Bool
  | .int k, .i k' _ => decide (k' = k)
  | .bool, .b _ => true
  | .str, .s _ => true
  | .st ks, .agg vs => isKs ks vs
  | _, _ => false
def kqs : List Val → List Val → Bool
  | [], [] => true
  | .i _ a :: r, .i _ b :: s => (a == b) && kqs r s
  | _, _ => false
def kq : Val → Val → Bool
  | .i _ a, .i _ b => a == b
  | .b a, .b b => a == b
  | .s a, .s b => a == b
  | .agg a, .agg b => kqs a b
  | _, _ => false
/-- A key's place in a map, and what stands there. -/
def findV (kk : KK) (k : Val) : List (Nat × Val × Val) → Nat → Option (Option (Nat × Val))
  | [], _ => some none
  | x :: r, i => if isK kk x.2.1 then (if kq k x.2.1 then some (some (i, x.2.2)) else findV kk k r (i + 1)) else none

inductive IOp where
  | mv (x : Opd)
  | pick (c a b : Opd)
  | box (x : Opd)
  | build (z : List Val) (ps : List (Nat × Nat × Opd))
  | bslice (sz len : Nat) (z : List Val) (ps : List (Nat × Nat × Opd))
  | ld1 (a : Opd)
  | ldn (n : Nat) (a : Opd)
  | st (n : Nat) (a x : Opd)
  | nilchk (x : Opd)
  | ibin (op : BinOp) (x y : Opd)
  | eqn (kind : Nat) (neg : Bool) (x y : Opd)
  | eqs (ks : List Nat) (neg : Bool) (x y : Opd)
  | un (op : UnOp) (x : Opd)
  | conv (k : IntKind) (x : Opd)
  | mksl (sz bytes : Nat) (z : List Val) (l c : Opd)
  | slice (sz : Nat) (x : Opd) (lo hi : Option Opd)
  | slstr (x : Opd) (lo hi : Option Opd)
  | fad (off : Nat) (x : Opd)
  | fld1 (off : Nat) (x : Opd)
  | fldn (off n : Nat) (x : Opd)
  | iad (sz : Nat) (x i : Opd)
  | iada (sz n : Nat) (x i : Opd)
  | ix1 (n : Nat) (x i : Opd)
  | ixn (sz n : Nat) (x i : Opd)
  | ixs (x i : Opd)
  | ext (x : Opd) (j : Nat)
  | len (kind : Nat) (x : Opd)
  | mx (mn : Bool) (x : Opd) (xs : List Opd)
  | app (sz bytes : Nat) (x y : Opd)
  | mkfn (f : Fn) (a b : List Opd)
  | mkif (t : TypeId) (x : Opd)
  | lkp (kk : KK) (ok : Bool) (z : Val) (x ix : Opd)
  | ent (x : Opd)
  deriving Inhabited

def Val.slen : Val → Nat
  | .sl _ _ n _ => n
  | _ => 0

/-- The cells that a slice shows. -/
def window (H : Heap) : Val → Nat → Option (List Val)
  | .nils, _ => some []
  | .sl id off len sz, z => if sz = z then match H[id]? with
      | some (.rw c) => if off + len * sz ≤ c.length then some ((c.drop off).take (len * sz)) else none
      | some (.ro c) => if off + len * sz ≤ c.length then some ((c.drop off).take (len * sz)) else none
      | _ => none
    else none
  | _, _ => none

def ints (op : BinOp) (k : IntKind) (a b : Int) : Option Val :=
  match op with
  | .add => some (.i k (k.wrap (a + b)))
  | .sub => some (.i k (k.wrap (a - b)))
  | .mul => some (.i k (k.wrap (a * b)))
  | .quo => if b = 0 then none else some (.i k (k.wrap (a.tdiv b)))
  | .rem => if b = 0 then none else some (.i k (a.tmod b))
  | .and => some (.i k (k.wrap (BitVec.ofInt k.bits a &&& BitVec.ofInt k.bits b).toNat))
  | .or => some (.i k (k.wrap (BitVec.ofInt k.bits a ||| BitVec.ofInt k.bits b).toNat))
  | .xor => some (.i k (k.wrap (BitVec.ofInt k.bits a ^^^ BitVec.ofInt k.bits b).toNat))
  | .andNot => some (.i k (k.wrap (BitVec.ofInt k.bits a &&& ~~~ BitVec.ofInt k.bits b).toNat))
  | .eql => some (.b (a == b))
  | .neq => some (.b (a != b))
  | .lss => some (.b (a < b))
  | .leq => some (.b (a ≤ b))
  | .gtr => some (.b (a > b))
  | .geq => some (.b (a ≥ b))
  | _ => none

def strs (op : BinOp) (x y : ByteArray) : Option Val :=
  match op with
  | .add => if ((x.size + y.size : Nat) : Int) > IntKind.i64.max then none else some (.s (x ++ y))
  | .eql => some (.b (x.toList == y.toList))
  | .neq => some (.b !(x.toList == y.toList))
  | .lss => some (.b (Op.bytesLess x.toList y.toList))
  | .leq => some (.b (Op.bytesLess x.toList y.toList || x.toList == y.toList))
  | .gtr => some (.b !(Op.bytesLess x.toList y.toList || x.toList == y.toList))
  | .geq => some (.b !(Op.bytesLess x.toList y.toList))
  | _ => none

def bin (op : BinOp) : Val → Val → Option Val
  | .i k a, .i k' b =>
    match op with
    | .shl => if b < 0 then none else some (.i k (k.wrap (a * 2 ^ min b.toNat k.bits)))
    | .shr => if b < 0 then none else some (.i k (a.fdiv (2 ^ min b.toNat k.bits)))
    | _ => if k = k' then ints op k a b else none
  | .s x, .s y => strs op x y
  | _, _ => none

/-- Equality of what is no number and no string: bools, and what is nil. -/
def eqv : Val → Val → Option Bool
  | .b x, .b y => some (x == y)
  | .nilp, .nilp => some true
  | .nilp, .p _ _ => some false
  | .p _ _, .nilp => some false
  | .nils, .nils => some true
  | .nils, .sl _ _ _ _ => some false
  | .sl _ _ _ _, .nils => some false
  | .nilm, .nilm => some true
  | .nilm, .m _ => some false
  | .m _, .nilm => some false
  | .nilf, .nilf => some true
  | .nilf, .fn _ _ _ => some false
  | .fn _ _ _, .nilf => some false
  | .nili, .ifc _ _ => some false
  | .ifc _ _, .nili => some false
  | _, _ => none

/-- Equality of single cells: numbers (0), bools (1), texts (2); and of many. -/
def ceq : Nat → Val → Val → Option Bool
  | 0, .i k a, .i k' b => if k = k' then some (a == b) else none
  | 1, .b x, .b y => some (x == y)
  | 2, .s x, .s y => some (x.toList == y.toList)
  | _, _, _ => none
def ceqs : List Nat → List Val → List Val → Option Bool
  | [], [], [] => some true
  | k :: ks, a :: as, b :: bs => match ceq k a b, ceqs ks as bs with
    | some p, some q => some (p && q)
    | _, _ => none
  | _, _, _ => none
def eqc (ks : List Nat) : Val → Val → Option Bool
  | .agg a, .agg b => ceqs ks a b
  | _, _ => none

def unary (op : UnOp) : Val → Option Val
  | .i k n => match op with
    | .neg => some (.i k (k.wrap (0 - n)))
    | .xor => some (.i k (k.wrap (BitVec.ofInt k.bits (if k.signed then -1 else k.max) ^^^ BitVec.ofInt k.bits n).toNat))
    | _ => none
  | .b x => match op with
    | .not => some (.b !x)
    | _ => none
  | _ => none

def mx2 (mn : Bool) : Val → Val → Option Val
  | .i k x, .i _ y => some (.i k (if mn then (if y < x then y else x) else (if y > x then y else x)))
  | _, _ => none

def mxs (mn : Bool) : Val → List Val → Option Val
  | a, [] => some a
  | a, b :: r => match mx2 mn a b with
    | some c => mxs mn c r
    | none => none

def partsOf (e : Opd → Val) : List (Nat × Nat × Opd) → Option (List (Nat × List Val))
  | [] => some []
  | (off, n, x) :: r => match (e x).cells?, partsOf e r with
    | some l, some m => if l.length = n then some ((off, l) :: m) else none
    | _, _ => none

def bnd (e : Opd → Val) (d : Nat) : Option Opd → Option Int
  | none => some d
  | some o => match e o with
    | .i _ n => some n
    | _ => none

def Val.kindNo : Val → Nat
  | .b _ => 1
  | .nilp | .p _ _ => 2
  | .nils | .sl _ _ _ _ => 3
  | .nilm | .m _ => 4
  | .nilf | .fn _ _ _ | .yld _ => 5
  | .nili | .ifc _ _ => 6
  | _ => 0
def Val.lenNo : Val → Nat
  | .s _ => 1
  | .nils | .sl _ _ _ _ => 2
  | .nilm | .m _ => 3
  | _ => 0
def lenOf (v : Val) (H : Heap) : Option Val :=
  match v with
  | .s b => some (.i .i64 b.size)
  | .nils => some (.i .i64 0)
  | .sl _ _ ln _ => some (.i .i64 ln)
  | .nilm => some (.i .i64 0)
  | .m id => match H[id]? with
    | some (.map es _) => some (.i .i64 es.length)
    | _ => none
  | _ => none

def IOp.step (e : Opd → Val) (H : Heap) : IOp → Option (Val × Heap)
  | .mv x => some (e x, H)
  | .pick c a b => match e c with
    | .b t => some (if t then e a else e b, H)
    | _ => none
  | .box x => match (e x).cells? with
    | some l => some (.p H.length 0, H ++ [.rw l])
    | none => none
  | .build z ps => match partsOf e ps with
    | some l => if l.all (fun p => p.1 + p.2.length ≤ z.length) then some (.agg (padTo z l), H) else none
    | none => none
  | .bslice sz ln z ps => match partsOf e ps with
    | some l => if l.all (fun p => p.1 + p.2.length ≤ z.length) then some (.sl H.length 0 ln sz, H ++ [.rw (padTo z l)]) else none
    | none => none
  | .ld1 a => match e a with
    | .p id off => match H[id]? with
      | some (.rw c) => (c[off]?).map (·, H)
      | some (.ro c) => (c[off]?).map (·, H)
      | _ => none
    | _ => none
  | .ldn n a => match e a with
    | .p id off => match H[id]? with
      | some (.rw c) => if off + n ≤ c.length then some (.agg ((c.drop off).take n), H) else none
      | some (.ro c) => if off + n ≤ c.length then some (.agg ((c.drop off).take n), H) else none
      | _ => none
    | _ => none
  | .st n a x => match e a with
    | .p id off => match H[id]? with
      | some (.rw c) => match (e x).cells? with
        | some l => if l.length = n ∧ off + n ≤ c.length then some (.u, H.set id (.rw (wr c off l))) else none
        | none => none
      | _ => none
    | _ => none
  | .nilchk x => match e x with
    | .p id off => some (.p id off, H)
    | .fn (.func f) a b => some (.fn (.func f) a b, H)
    | _ => none
  | .ibin op x y => (bin op (e x) (e y)).map (·, H)
  | .eqn k neg x y => if (e x).kindNo = k then (eqv (e x) (e y)).map fun t => (.b (if neg then !t else t), H) else none
  | .eqs ks neg x y => (eqc ks (e x) (e y)).map fun t => (.b (if neg then !t else t), H)
  | .un op x => (unary op (e x)).map (·, H)
  | .conv k x => match e x with
    | .i _ n => some (.i k (k.wrap n), H)
    | _ => none
  | .mksl sz bytes z l c => match e l, e c with
    | .i _ l, .i _ c =>
      let l' := IntKind.i64.wrap l
      let c' := IntKind.i64.wrap c
      if 0 ≤ l' ∧ l' ≤ c' ∧ (bytes : Int) * c' ≤ 281474976710656 then some (.sl H.length 0 l'.toNat sz, H ++ [.rw (mk z l'.toNat)]) else none
    | _, _ => none
  | .slice sz x lo hi => match e x with
    | .sl id off ln sz' => match bnd e 0 lo, bnd e ln hi with
      | some l, some h => if sz' = sz ∧ 0 ≤ l ∧ l ≤ h ∧ h ≤ ln then some (.sl id (off + l.toNat * sz) (h.toNat - l.toNat) sz, H) else none
      | _, _ => none
    | .nils => match bnd e 0 lo, bnd e 0 hi with
      | some l, some h => if l = 0 ∧ h = 0 then some (.nils, H) else none
      | _, _ => none
    | _ => none
  | .slstr x lo hi => match e x with
    | .s b => match bnd e 0 lo, bnd e b.size hi with
      | some l, some h => if 0 ≤ l ∧ l ≤ h ∧ h ≤ b.size then some (.s (b.extract l.toNat h.toNat), H) else none
      | _, _ => none
    | _ => none
  | .fad off x => match e x with
    | .p id o => some (.p id (o + off), H)
    | _ => none
  | .fld1 off x => match e x with
    | .agg cs => (cs[off]?).map (·, H)
    | _ => none
  | .fldn off n x => match e x with
    | .agg cs => if off + n ≤ cs.length then some (.agg ((cs.drop off).take n), H) else none
    | _ => none
  | .iad sz x i => match e x, e i with
    | .sl id off ln _, .i _ n => if 0 ≤ n ∧ n < ln then some (.p id (off + n.toNat * sz), H) else none
    | _, _ => none
  | .iada sz m x i => match e x, e i with
    | .p id off, .i _ n => if 0 ≤ n ∧ n < m then some (.p id (off + n.toNat * sz), H) else none
    | _, _ => none
  | .ix1 m x i => match e x, e i with
    | .agg cs, .i _ n => if 0 ≤ n ∧ n < m then (cs[n.toNat]?).map (·, H) else none
    | _, _ => none
  | .ixn sz m x i => match e x, e i with
    | .agg cs, .i _ n => if 0 ≤ n ∧ n < m ∧ n.toNat * sz + sz ≤ cs.length then some (.agg ((cs.drop (n.toNat * sz)).take sz), H) else none
    | _, _ => none
  | .ixs x i => match e x, e i with
    | .s b, .i _ n => if 0 ≤ n then (b[n.toNat]?).map fun c => (.i .u8 c.toNat, H) else none
    | _, _ => none
  | .ext x j => match e x with
    | .tup vs => (vs[j]?).map (·, H)
    | _ => none
  | .len k x => if (e x).lenNo = k then (lenOf (e x) H).map (·, H) else none
  | .mx mn x xs => (mxs mn (e x) (xs.map e)).map (·, H)
  | .app sz bytes x y => match window H (e x) sz, window H (e y) sz with
    | some old, some new =>
      if ((e x).slen + (e y).slen) * bytes ≤ 140737488355328 then
        match e x with
        | .nils => if (e y).slen = 0 then some (.nils, H) else some (.sl H.length 0 (e y).slen sz, H ++ [.rw new])
        | .sl id _ ln _ => match H[id]? with
          | some (.rw _) => some (.sl H.length 0 (ln + (e y).slen) sz, H.set id .dead ++ [.rw (old ++ new)])
          | _ => none
        | _ => none
      else none
    | _, _ => none
  | .mkfn f a b => some (.fn f (a.map e) (b.map e), H)
  | .mkif t x => some (.ifc t (e x), H)
  | .ent x => match e x with
    | .p id 0 => match H[id]? with
      | some (.iter mid _ seen last) => match seen.getLast?, H[mid]? with
        | some b, some (.map es ck) => if ck = last then match es.find? (fun y => y.1 == b) with
            | some y => some (.tup [y.2.1, y.2.2], H)
            | none => none
          else none
        | _, _ => none
      | _ => none
    | _ => none
  | .lkp kk ok z x ix => if isK kk (e ix) then match e x with
      | .nilm => some (if ok then .tup [z, .b false] else z, H)
      | .m id => match H[id]? with
        | some (.map es _) => match findV kk (e ix) es 0 with
          | some (some (_, v)) => some (if ok then .tup [v, .b true] else v, H)
          | some none => some (if ok then .tup [z, .b false] else z, H)
          | none => none
        | _ => none
      | _ => none
    else none

/-- What an operation of the model comes to. -/
def RunOk (P : Program) (s : Sem Next) (σ : Names) (H : Heap) (w : World) (v : Val) (H' : Heap) : Prop :=
  ∃ x c w' σ', s.run P w = .ok x w' ∧ (x = .value c ∨ x = .skip ∧ c = undef) ∧ VRel σ' v c ∧ Rel σ' H' w' ∧ Step σ H w σ' H' w'

theorem RunOk.quiet {P : Program} {s : Sem Next} {σ : Names} {H : Heap} {w : World} {v : Val} {c : Value} (r : Rel σ H w)
    (h : s.run P w = .ok (.value c) w) (hv : VRel σ v c) : RunOk P s σ H w v H :=
  ⟨_, c, w, σ, h, .inl rfl, hv, r, Step.refl _ _ _ r.dom⟩
end Go.Proofs.YtmdilnelogechaaDoor.Ev
