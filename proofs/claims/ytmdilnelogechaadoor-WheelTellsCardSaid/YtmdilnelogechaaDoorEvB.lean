/- This text of the evaluator proves: each operation of the code is what its short form says. No condition. -/
import Derived.Test.YtmdilnelogechaaDoorEvA
import Derived.Laws.StructEq
import Derived.ChangeKeysEq
set_option linter.unusedVariables false
set_option linter.unusedSimpArgs false
set_option linter.constructorNameAsVariable false
/- From the model's operation to the abstract one. -/
namespace Go.Proofs.YtmdilnelogechaaDoor.Ev
open Go
variable {Df : List Deferred} {ro : Option Nat}

def opd : Operand → Option Opd
  | .tmp t => some (.t t)
  | .const v => (ofValue v).map .c
  | .func f => some (.c (.fn (.func f) [] []))
  | .global _ => none

theorem opd_rel {N : Nat} {σ : Names} {ρ : Env} {a : Act} (h : ARel N Df σ ρ a) {x : Operand} {y : Opd} (hy : opd x = some y) : VRel σ (y.ev ρ) (a.eval x) := by
  cases x with
  | tmp t => cases hy; exact h.vals t
  | const v =>
    simp only [opd, Option.map_eq_some_iff] at hy
    obtain ⟨u, hu, rfl⟩ := hy
    exact ofValue_rel σ hu
  | func f => cases hy; exact .fn _ rfl rfl (by simp) (by simp)
  | global g => cases hy

def opds : List Operand → Option (List Opd)
  | [] => some []
  | x :: r => match opd x, opds r with
    | some y, some m => some (y :: m)
    | _, _ => none

def oopd : Option Operand → Option (Option Opd)
  | none => some none
  | some x => (opd x).map some

def isAggD : TypeDesc → Bool
  | .struct _ | .array _ _ => true
  | _ => false

theorem run_isAgg' {P : Program} {t : TypeId} {d : TypeDesc} (h : P.underlying t = some d) (w : World) : (isAgg t).run P w = .ok (isAggD d) w := by
  unfold isAgg
  simp only [Sem.run_bind, run_underlying h, Result.andThen_ok]
  cases d <;> rfl
theorem run_typeInfo' {P : Program} {t : TypeId} {i : TypeInfo} (h : P.info? t = some i) (w : World) : (typeInfo t).run P w = .ok i w := by
  unfold typeInfo
  simp [h]
theorem run_sizeOf' {P : Program} {t : TypeId} {i : TypeInfo} (h : P.info? t = some i) (w : World) : (sizeOf t).run P w = .ok i.size w := by
  unfold sizeOf
  simp [run_typeInfo' h]
theorem run_zeroValue' {P : Program} {t : TypeId} {i : TypeInfo} {z : Value} (h : P.info? t = some i) (hz : i.zero = some z) (w : World) : (zeroValue t).run P w = .ok z w := by
  unfold zeroValue
  simp [run_typeInfo' h, hz]

theorem add_addr (b o j : Nat) : (⟨b, o, none⟩ : Addr).add j = ⟨b, o + j, none⟩ := by unfold Addr.add; split <;> simp_all

-- cells that are read
theorem window_rel {σ : Names} {w : World} {lo : Loc} {c : List Val}
    (hc : ∀ (j : Nat) (v : Val), c[j]? = some v → ∃ x, w.cell? ⟨lo.blk, lo.base + j, none⟩ = some x ∧ VRel σ v x ∧ x.oneCell' = true) {off n : Nat} (h : off + n ≤ c.length) :
    ∃ cs : List Value, cs.length = n ∧ (∀ (j : Nat) (v : Value), cs[j]? = some v → w.cell? ((⟨lo.blk, lo.base + off, none⟩ : Addr).add j) = some v) ∧
      (∀ (j : Nat) (v : Val) (x : Value), ((c.drop off).take n)[j]? = some v → cs[j]? = some x → VRel σ v x) ∧ ∀ x ∈ cs, x.oneCell' = true := by
  have hex : ∀ j, j < n → ∃ x, w.cell? ⟨lo.blk, lo.base + off + j, none⟩ = some x ∧ (∀ v, ((c.drop off).take n)[j]? = some v → VRel σ v x) ∧ x.oneCell' = true := by
    intro j hj
    obtain ⟨x, h1, h2, h3⟩ := hc (off + j) _ (List.getElem?_eq_getElem (by omega))
    refine ⟨x, by rw [Nat.add_assoc]; exact h1, fun v hv => ?_, h3⟩
    have : ((c.drop off).take n)[j]? = some (c[off + j]'(by omega)) := by
      rw [List.getElem?_take, if_pos hj, List.getElem?_drop, List.getElem?_eq_getElem]
    rw [this] at hv
    cases hv
    exact h2
  refine ⟨List.ofFn fun j : Fin n => Classical.choose (hex j j.2), by simp, fun j v hv => ?_, fun j v x hj hx => ?_, fun x hx => ?_⟩
  · obtain ⟨hl, e⟩ := List.getElem?_eq_some_iff.1 hv
    simp at hl
    rw [List.getElem_ofFn] at e
    rw [add_addr, ← e]
    exact (Classical.choose_spec (hex j hl)).1
  · obtain ⟨hl, e⟩ := List.getElem?_eq_some_iff.1 hx
    simp at hl
    rw [List.getElem_ofFn] at e
    rw [← e]
    exact (Classical.choose_spec (hex j hl)).2.1 v hj
  · obtain ⟨k, e⟩ := List.mem_ofFn.1 hx
    rw [← e]
    exact (Classical.choose_spec (hex k k.2)).2.2

def cellsOfObj : AObj → Option (List Val)
  | .rw c => some c
  | .ro c => some c
  | _ => none

theorem obj_cells {σ : Names} {H : Heap} {w : World} (r : Rel σ H w) {id : Nat} {lo : Loc} {o : AObj} {c : List Val} (hs : σ id = some lo) (ho : H[id]? = some o) (hc : cellsOfObj o = some c) :
    lo.base + c.length ≤ lo.size ∧ ∀ (j : Nat) (v : Val), c[j]? = some v → ∃ x, w.cell? ⟨lo.blk, lo.base + j, none⟩ = some x ∧ VRel σ v x ∧ x.oneCell' = true := by
  have := r.obj id lo o hs ho
  cases o with
  | rw d => cases hc; exact this.1
  | ro d => cases hc; exact this
  | map es ck => cases hc
  | iter a b c d => cases hc
  | loop _ _ _ _ _ _ _ => cases hc
  | dead => cases hc

theorem ok_ld1 {P : Program} {σ : Names} {H : Heap} {w : World} (r : Rel σ H w) {t : TypeId} {d : TypeDesc} (hu : P.underlying t = some d) (hd : isAggD d = false)
    {a : Val} {ca : Value} (ha : VRel σ a ca) {id off : Nat} (he : a = .p id off) {o : AObj} {c : List Val} (ho : H[id]? = some o) (hc : cellsOfObj o = some c) {v : Val} (hv : c[off]? = some v) :
    RunOk P (do pure (.value (← Instr.loadAt t ca))) σ H w v H := by
  subst he
  cases ha with
  | p hs =>
    rename_i lo
    obtain ⟨_, h2⟩ := obj_cells r hs ho hc
    obtain ⟨x, h3, h4, _⟩ := h2 off v hv
    refine RunOk.quiet r ?_ h4
    simp [Instr.loadAt, Instr.sureAddr, loadVar, run_isAgg' hu, hd, h3]

theorem ok_ldn {P : Program} {σ : Names} {H : Heap} {w : World} (r : Rel σ H w) {t : TypeId} {d : TypeDesc} {i : TypeInfo} (hu : P.underlying t = some d) (hd : isAggD d = true) (hi : P.info? t = some i)
    {a : Val} {ca : Value} (ha : VRel σ a ca) {id off : Nat} (he : a = .p id off) {o : AObj} {c : List Val} (ho : H[id]? = some o) (hc : cellsOfObj o = some c) (hv : off + i.size ≤ c.length) :
    RunOk P (do pure (.value (← Instr.loadAt t ca))) σ H w (.agg ((c.drop off).take i.size)) H := by
  subst he
  cases ha with
  | p hs =>
    rename_i lo
    obtain ⟨_, h2⟩ := obj_cells r hs ho hc
    obtain ⟨cs, g1, g2, g3, _⟩ := window_rel h2 hv
    refine RunOk.quiet (c := .agg cs.toArray) r ?_ (.agg (by simp [g1]; omega) (fun j v x hj hx => g3 j v x hj (by simpa using hx)))
    have := run_loadCells_list (P := P) w _ cs g2
    rw [g1] at this
    simp [Instr.loadAt, Instr.sureAddr, loadVar, run_isAgg' hu, hd, run_sizeOf' hi, this]

theorem ok_st {P : Program} {σ : Names} {H : Heap} {w : World} (r : Rel σ H w) {t : TypeId} {i : TypeInfo} (hi : P.info? t = some i)
    {a : Val} {ca : Value} (ha : VRel σ a ca) {x : Val} {cx : Value} (hx : VRel σ x cx) {id off : Nat} (he : a = .p id off) {c l : List Val} (ho : H[id]? = some (.rw c)) (hl : x.cells? = some l)
    (hn : l.length = i.size) (hb : off + i.size ≤ c.length) :
    RunOk P (do Instr.storeAt t ca cx; pure .skip) σ H w .u (H.set id (.rw (wr c off l))) := by
  subst he
  cases ha with
  | p hs =>
    rename_i lo
    obtain ⟨⟨g1, g2⟩, g3⟩ := cells_rel hx hl
    have hobj := r.obj id lo _ hs ho
    have hsz : cx.cells.toList.length = i.size := by simp; omega
    obtain ⟨r1, s1⟩ := r.setn (off := off) (xs := cx.cells.toList) hs ho (by omega) (by simp [g1]) (fun j v y hj hy => g2 j v y hj (by simpa using hy)) g3
    refine ⟨.skip, undef, _, σ, ?_, .inr ⟨rfl, rfl⟩, .u _, r1, s1⟩
    have hb' := hobj.1.1
    have hst := run_storeCells_cells (P := P) lo.blk (lo.base + off) cx.cells.toList 0 w
      (fun j hj => by obtain ⟨⟨y, h1⟩, _⟩ := hobj.2 (lo.base + off + 0 + j) (by omega); rw [h1]; rfl)
      (fun j hj => (hobj.2 (lo.base + off + 0 + j) (by omega)).2) g3
    simp at hst hsz
    simp [Instr.storeAt, Instr.sureAddr, storeVar, run_sizeOf' hi, hsz, hst]

/-- An operation that makes one new block and does nothing else. -/
def AllocOk (P : Program) (s : Sem Next) (σ : Names) (w : World) (f : Nat → Val) (l : List Val) : Prop :=
  ∃ cs e c, s.run P w = .ok (.value c) (w.alloc (.cells cs e (0, 0))) ∧ l.length ≤ cs.size ∧ (∀ (j : Nat) (v : Val) (x : Value), l[j]? = some v → cs[j]? = some x → VRel σ v x) ∧
    (∀ (j : Nat) (x : Value), j < l.length → cs[j]? = some x → x.oneCell' = true) ∧ ∀ (τ : Names) (id : Nat), τ id = some ⟨w.heap.size, 0, cs.size⟩ → VRel τ (f id) c

theorem AllocOk.run {P : Program} {s : Sem Next} {σ : Names} {H : Heap} {w : World} {f : Nat → Val} {l : List Val} (r : Rel σ H w) (h : AllocOk P s σ w f l) : RunOk P s σ H w (f H.length) (H ++ [.rw l]) := by
  obtain ⟨cs, e, c, h1, h2, h3, h4, h5⟩ := h
  obtain ⟨r1, s1⟩ := r.alloc (l := l) (cs := cs) (e := e) (w' := w.alloc (.cells cs e (0, 0))) h2 h3 h4 rfl ⟨rfl, rfl, rfl⟩
  exact ⟨_, c, _, _, h1, .inl rfl, h5 _ _ (Names.add_same _ _ _), r1, s1⟩

theorem alloc_box {P : Program} {σ : Names} {w : World} {t : TypeId} {x : Val} {cx : Value} (hx : VRel σ x cx) {l : List Val} (hl : x.cells? = some l) :
    AllocOk P (do pure (.value (← Instr.box t cx))) σ w (fun id => .p id 0) l := by
  obtain ⟨⟨g1, g2⟩, g3⟩ := cells_rel hx hl
  refine ⟨cx.cells, t, .pointer (some ⟨w.heap.size, 0, none⟩), ?_, Nat.le_of_eq g1, g2, fun j x _ h => g3 x (by obtain ⟨hj, e⟩ := Array.getElem?_eq_some_iff.1 h; rw [← e]; simp), fun τ id h => .p h⟩
  simp [Instr.box, newVar, newRow]

theorem alloc_alloc {P : Program} {σ : Names} {w : World} {t : TypeId} {i : TypeInfo} {z : Value} (hi : P.info? t = some i) (hz : i.zero = some z) {x : Val} (hx : VRel σ x z) {l : List Val} (hl : x.cells? = some l) :
    AllocOk P (do pure (.value (← Instr.alloc t true (.tuple #[])))) σ w (fun id => .p id 0) l := by
  obtain ⟨cs, e, c, h1, h2⟩ := alloc_box (P := P) (w := w) (t := t) hx hl
  refine ⟨cs, e, c, ?_, h2⟩
  rw [← h1]
  simp [Instr.box, Instr.alloc, run_zeroValue' hi hz]
end Go.Proofs.YtmdilnelogechaaDoor.Ev
/- From the model's operation to the abstract one: numbers, places, slices. -/
namespace Go.Proofs.YtmdilnelogechaaDoor.Ev
open Go

theorem ints_run {P : Program} {w : World} {op : BinOp} {k : IntKind} {a b : Int} {v : Val} (h : ints op k a b = some v) {σ : Names} :
    ∃ c, VRel σ v c ∧ (∀ t, (binOp op t (.int k a) (.int k b)).run P w = .ok c w) := by
  cases op <;> simp only [ints] at h <;> first
    | (cases h; done)
    | (split at h
       · cases h
       · rename_i hb
         cases h
         exact ⟨_, .i _ _, fun t => by simp [binOp, Op.intDiv, hb]⟩)
    | (cases h
       exact ⟨_, by constructor, fun t => by simp [binOp, Op.intArith, Op.intBits, Op.intCmp]⟩)

theorem strs_run {P : Program} {w : World} {op : BinOp} {a b : ByteArray} {v : Val} (h : strs op a b = some v) {σ : Names} :
    ∃ c, VRel σ v c ∧ (∀ t, (binOp op t (.string a) (.string b)).run P w = .ok c w) := by
  cases op <;> simp only [strs] at h <;> first
    | (cases h; done)
    | (split at h
       · cases h
       · rename_i hb
         cases h
         refine ⟨_, .s _, fun t => ?_⟩
         simp only [binOp, Op.stringOp]
         rw [if_neg hb]
         rfl)
    | (cases h
       exact ⟨_, by constructor, fun t => by simp [binOp, Op.stringOp]⟩)

theorem eqGuard_quiet {P : Program} {w : World} (op : BinOp) (t : TypeId) (x y : Operand) {a b : Value}
    (h : ∀ p q, a = .agg p → b = .agg q → False) (h' : a = .nilIface → b = .nilIface → False) : (eqGuard op t x y a b).run P w = .ok () w := by
  unfold eqGuard
  cases op <;> first
    | rfl
    | (cases a with
       | nilIface => cases b with
         | nilIface => exact (h' rfl rfl).elim
         | _ => rfl
       | agg p => cases b with
         | agg q => exact (h _ _ rfl rfl).elim
         | _ => rfl
       | _ => rfl)

theorem ok_ibin {P : Program} {σ : Names} {H : Heap} {w : World} (r : Rel σ H w) {op : BinOp} {t : TypeId} (x y : Operand) {a b v : Val} {ca cb : Value} (ha : VRel σ a ca) (hb : VRel σ b cb)
    (h : bin op a b = some v) : RunOk P (do pure (.value (← (do eqGuard op t x y ca cb; binOp op t ca cb)))) σ H w v H := by
  have fin : ∀ c, VRel σ v c → (∀ p q, ca = .agg p → cb = .agg q → False) → (ca = .nilIface → cb = .nilIface → False) → (binOp op t ca cb).run P w = .ok c w →
      RunOk P (do pure (.value (← (do eqGuard op t x y ca cb; binOp op t ca cb)))) σ H w v H := by
    intro c h1 h2 h2' h3
    refine RunOk.quiet r ?_ h1
    simp [eqGuard_quiet op t x y h2 h2', h3]
  unfold bin at h
  split at h
  · rename_i k p k' q
    cases ha; cases hb
    split at h
    · split at h
      · cases h
      · rename_i hq
        cases h
        exact fin _ (.i _ _) (by intro p q h; cases h) (by intro h; cases h) (by simp [binOp, Op.shift, hq])
    · split at h
      · cases h
      · rename_i hq
        cases h
        exact fin _ (.i _ _) (by intro p q h; cases h) (by intro h; cases h) (by simp [binOp, Op.shift, hq])
    · split at h
      · rename_i hk
        subst hk
        obtain ⟨c, h1, h2⟩ := ints_run (P := P) (w := w) (σ := σ) h
        exact fin c h1 (by intro p q h; cases h) (by intro h; cases h) (h2 t)
      · cases h
  · cases ha; cases hb
    obtain ⟨c, h1, h2⟩ := strs_run (P := P) (w := w) (σ := σ) h
    exact fin c h1 (by intro p q h; cases h) (by intro h; cases h) (h2 t)
  · cases h

def eqKind : TypeDesc → Nat
  | .bool => 1
  | .pointer _ => 2
  | .slice _ => 3
  | .map _ _ => 4
  | .func _ _ _ => 5
  | .interface _ => 6
  | _ => 0
theorem eqv_run {P : Program} {w : World} {σ : Names} {t : TypeId} {d : TypeDesc} (hu : P.underlying t = some d) {a b : Val} {ca cb : Value} (ha : VRel σ a ca) (hb : VRel σ b cb) {q : Bool}
    (h : eqv a b = some q) (hk : a.kindNo = eqKind d) : (Op.equal t ca cb).run P w = .ok q w := by
  unfold eqv at h
  unfold Op.equal Op.maxDepth Op.equalIn
  split at h <;> cases h <;> cases ha <;> cases hb <;> cases d <;> simp [Val.kindNo, eqKind] at hk <;> simp [run_underlying hu]

theorem ok_eqn {P : Program} {σ : Names} {H : Heap} {w : World} (r : Rel σ H w) {neg : Bool} {t : TypeId} {d : TypeDesc} (hu : P.underlying t = some d) (x y : Operand) {a b : Val} {ca cb : Value} (ha : VRel σ a ca) (hb : VRel σ b cb) {q : Bool}
    (h : eqv a b = some q) (hk : a.kindNo = eqKind d) :
    RunOk P (do pure (.value (← (do eqGuard (if neg then .neq else .eql) t x y ca cb; binOp (if neg then .neq else .eql) t ca cb)))) σ H w (.b (if neg then !q else q)) H := by
  have he := eqv_run (P := P) (w := w) hu ha hb h hk
  refine RunOk.quiet (c := .bool (if neg then !q else q)) r ?_ (.b _)
  have h1 : ∀ p q, ca = .agg p → cb = .agg q → False := by
    rintro p q rfl rfl
    cases ha <;> cases hb <;> simp [eqv] at h
  have h1' : ca = .nilIface → cb = .nilIface → False := by
    rintro rfl rfl
    cases ha <;> cases hb <;> simp [eqv] at h
  have h2 : (binOp (if neg then .neq else .eql) t ca cb).run P w = .ok (.bool (if neg then !q else q)) w := by
    unfold eqv at h
    cases neg <;> (split at h <;> cases h <;> cases ha <;> cases hb <;> simp [binOp, he])
  simp [eqGuard_quiet _ t x y h1 h1', h2]

theorem ok_un {P : Program} {σ : Names} {H : Heap} {w : World} (r : Rel σ H w) {op : UnOp} {a v : Val} {ca : Value} (ha : VRel σ a ca) (h : unary op a = some v) :
    RunOk P (do pure (.value (← Op.unary op ca))) σ H w v H := by
  unfold unary at h
  split at h
  · cases ha
    split at h <;> cases h
    · exact RunOk.quiet r (by simp [Op.unary, Op.intArith]) (.i _ _)
    · exact RunOk.quiet r (by simp [Op.unary, Op.intBits]) (.i _ _)
  · cases ha
    split at h <;> cases h
    exact RunOk.quiet r (by simp [Op.unary]) (.b _)
  · cases h

theorem ok_conv {P : Program} {σ : Names} {H : Heap} {w : World} (r : Rel σ H w) {s t : TypeId} {d : TypeDesc} {k k' : IntKind} {n : Int} (hs : P.underlying s = some d) (ht : P.underlying t = some (.int k)) {ca : Value} (ha : VRel σ (.i k' n) ca) :
    RunOk P (do pure (.value (← convert s t ca))) σ H w (.i k (k.wrap n)) H := by
  cases ha
  refine RunOk.quiet r ?_ (.i _ _)
  cases d <;> simp [convert, run_underlying hs, run_underlying ht, Conv.intToInt] <;> rfl

theorem ok_fad {P : Program} {σ : Names} {H : Heap} {w : World} (r : Rel σ H w) {t : TypeId} {fs : Array Field} {j : Nat} {f : Field} {i : TypeInfo} (hu : P.underlying t = some (.struct fs)) (hf : fs[j]? = some f)
    (hi : P.info? f.type = some i) (hz : i.size ≠ 0) {id o : Nat} {ca : Value} (ha : VRel σ (.p id o) ca) :
    RunOk P (do pure (.value (← Instr.fieldAt t ca j))) σ H w (.p id (o + f.offset)) H := by
  cases ha with
  | p hs =>
    rename_i lo
    refine RunOk.quiet r ?_ (.p hs)
    simp [Instr.fieldAt, run_underlying hu, hf, Instr.sureAddr, fieldPlace, run_sizeOf' hi, hz, add_addr, Nat.add_assoc]

theorem ok_fld1 {P : Program} {σ : Names} {H : Heap} {w : World} (r : Rel σ H w) {t : TypeId} {fs : Array Field} {j : Nat} {f : Field} {d : TypeDesc} (hu : P.underlying t = some (.struct fs)) (hf : fs[j]? = some f)
    (hd : P.underlying f.type = some d) (hg : isAggD d = false) {cs : List Val} {v : Val} {ca : Value} (ha : VRel σ (.agg cs) ca) (hv : cs[f.offset]? = some v) :
    RunOk P (do pure (.value (← Instr.field t ca j))) σ H w v H := by
  cases ha with
  | agg hl hr =>
    rename_i a'
    obtain ⟨h1, h2⟩ := List.getElem?_eq_some_iff.1 hv
    have hx : a'[f.offset]? = some (a'[f.offset]'(by omega)) := Array.getElem?_eq_getElem _
    refine RunOk.quiet r ?_ (hr _ v _ hv hx)
    simp [Instr.field, run_underlying hu, hf, asAgg, part, run_isAgg' hd, hg, hx]

theorem extract_rel {σ : Names} {cs : List Val} {a' : Array Value} (hl : cs.length = a'.size) (hr : ∀ (j : Nat) (v : Val) (c : Value), cs[j]? = some v → a'[j]? = some c → VRel σ v c) {off n : Nat} (hb : off + n ≤ cs.length) :
    VRel σ (.agg ((cs.drop off).take n)) (.agg (a'.extract off (off + n))) := by
  refine .agg (by simp; omega) fun j v c hj hc => ?_
  rw [List.getElem?_take] at hj
  split at hj
  · rename_i hjn
    rw [List.getElem?_drop] at hj
    rw [Array.getElem?_extract] at hc
    split at hc
    · exact hr _ v c hj hc
    · cases hc
  · cases hj

theorem ok_fldn {P : Program} {σ : Names} {H : Heap} {w : World} (r : Rel σ H w) {t : TypeId} {fs : Array Field} {j : Nat} {f : Field} {d : TypeDesc} {i : TypeInfo} (hu : P.underlying t = some (.struct fs)) (hf : fs[j]? = some f)
    (hd : P.underlying f.type = some d) (hg : isAggD d = true) (hi : P.info? f.type = some i) {cs : List Val} {ca : Value} (ha : VRel σ (.agg cs) ca) (hb : f.offset + i.size ≤ cs.length) :
    RunOk P (do pure (.value (← Instr.field t ca j))) σ H w (.agg ((cs.drop f.offset).take i.size)) H := by
  cases ha with
  | agg hl hr =>
    refine RunOk.quiet r ?_ (extract_rel hl hr hb)
    simp [Instr.field, run_underlying hu, hf, asAgg, part, run_isAgg' hd, hg, run_sizeOf' hi]

theorem ok_iad {P : Program} {σ : Names} {H : Heap} {w : World} (r : Rel σ H w) {t e : TypeId} {i : TypeInfo} (hu : P.underlying t = some (.slice e)) (hi : P.info? e = some i)
    {id off len sz : Nat} {k : IntKind} {n : Int} {ca cn : Value} (ha : VRel σ (.sl id off len sz) ca) (hn : VRel σ (.i k n) cn) (hb : 0 ≤ n ∧ n < len) :
    RunOk P (do pure (.value (← Instr.indexAt t ca cn))) σ H w (.p id (off + n.toNat * i.size)) H := by
  cases hn
  cases ha with
  | sl hs hl hz ho =>
    rename_i lo oc cap
    have h0 : len ≠ 0 := by omega
    have := ho h0
    subst this
    refine RunOk.quiet r ?_ (.p hs)
    have hb2 : n < (len : Int) := hb.2
    simp [Instr.indexAt, asIntOf, run_underlying hu, hb.1, hb2, run_sizeOf' hi, add_addr, Nat.add_assoc]

theorem ok_iada {P : Program} {σ : Names} {H : Heap} {w : World} (r : Rel σ H w) {t e : TypeId} {m : Nat} {i : TypeInfo} (hu : P.underlying t = some (.array m e)) (hi : P.info? e = some i)
    {id off : Nat} {k : IntKind} {n : Int} {ca cn : Value} (ha : VRel σ (.p id off) ca) (hn : VRel σ (.i k n) cn) (hb : 0 ≤ n ∧ n < m) :
    RunOk P (do pure (.value (← Instr.indexAt t ca cn))) σ H w (.p id (off + n.toNat * i.size)) H := by
  cases hn
  cases ha with
  | p hs =>
    refine RunOk.quiet r ?_ (.p hs)
    have hb2 : n < (m : Int) := hb.2
    simp [Instr.indexAt, asIntOf, run_underlying hu, hb.1, hb2, run_sizeOf' hi, Instr.sureAddr, add_addr, Nat.add_assoc]

theorem ok_ix1 {P : Program} {σ : Names} {H : Heap} {w : World} (r : Rel σ H w) {t e : TypeId} {m : Nat} {i : TypeInfo} {d : TypeDesc} (hu : P.underlying t = some (.array m e)) (hi : P.info? e = some i) (h1 : i.size = 1) (hd : P.underlying e = some d) (hg : isAggD d = false)
    {cs : List Val} {v : Val} {k : IntKind} {n : Int} {ca cn : Value} (ha : VRel σ (.agg cs) ca) (hn : VRel σ (.i k n) cn) (hb : 0 ≤ n ∧ n < m) (hv : cs[n.toNat]? = some v) :
    RunOk P (do pure (.value (← Instr.index t ca cn))) σ H w v H := by
  cases hn
  cases ha with
  | agg hl hr =>
    rename_i a'
    obtain ⟨g1, g2⟩ := List.getElem?_eq_some_iff.1 hv
    have hx : a'[n.toNat]? = some (a'[n.toNat]'(by omega)) := Array.getElem?_eq_getElem _
    have hb2 : n < (m : Int) := hb.2
    refine RunOk.quiet r ?_ (hr _ v _ hv hx)
    simp [Instr.index, asIntOf, run_underlying hu, hb.1, hb2, run_sizeOf' hi, h1, part, run_isAgg' hd, hg, hx]

theorem ok_ixn {P : Program} {σ : Names} {H : Heap} {w : World} (r : Rel σ H w) {t e : TypeId} {m : Nat} {i : TypeInfo} {d : TypeDesc} (hu : P.underlying t = some (.array m e)) (hi : P.info? e = some i) (hd : P.underlying e = some d) (hg : isAggD d = true)
    {cs : List Val} {k : IntKind} {n : Int} {ca cn : Value} (ha : VRel σ (.agg cs) ca) (hn : VRel σ (.i k n) cn) (hb : 0 ≤ n ∧ n < m) (hv : n.toNat * i.size + i.size ≤ cs.length) :
    RunOk P (do pure (.value (← Instr.index t ca cn))) σ H w (.agg ((cs.drop (n.toNat * i.size)).take i.size)) H := by
  cases hn
  cases ha with
  | agg hl hr =>
    have hb2 : n < (m : Int) := hb.2
    refine RunOk.quiet r ?_ (extract_rel hl hr hv)
    simp [Instr.index, asIntOf, run_underlying hu, hb.1, hb2, run_sizeOf' hi, part, run_isAgg' hd, hg]

theorem ok_ixs {P : Program} {σ : Names} {H : Heap} {w : World} (r : Rel σ H w) {t : TypeId} (hu : P.underlying t = some .string)
    {s : ByteArray} {b : UInt8} {k : IntKind} {n : Int} {ca cn : Value} (ha : VRel σ (.s s) ca) (hn : VRel σ (.i k n) cn) (hb : 0 ≤ n) (hv : s[n.toNat]? = some b) :
    RunOk P (do pure (.value (← Instr.index t ca cn))) σ H w (.i .u8 b.toNat) H := by
  cases hn
  cases ha
  refine RunOk.quiet r ?_ (.i _ _)
  simp [Instr.index, asIntOf, run_underlying hu, hb, hv]

theorem ok_ext {P : Program} {σ : Names} {H : Heap} {w : World} (r : Rel σ H w) {vs : List Val} {j : Nat} {v : Val} {ca : Value} (ha : VRel σ (.tup vs) ca) (hv : vs[j]? = some v) :
    RunOk P (do pure (.value (← Instr.extract ca j))) σ H w v H := by
  cases ha with
  | tup hl hr =>
    rename_i a'
    obtain ⟨g1, g2⟩ := List.getElem?_eq_some_iff.1 hv
    have hx : a'[j]? = some (a'[j]'(by omega)) := Array.getElem?_eq_getElem _
    exact RunOk.quiet r (by simp [Instr.extract, hx]) (hr _ v _ hv hx)

theorem mx2_run {P : Program} {w : World} {σ : Names} {mn : Bool} {a b v : Val} {ca cb : Value} (ha : VRel σ a ca) (hb : VRel σ b cb) (h : mx2 mn a b = some v) :
    ∃ c, VRel σ v c ∧ ((if mn then Builtin.min2 ca cb else Builtin.max2 ca cb).run P w = .ok c w) := by
  unfold mx2 at h
  split at h
  · cases h
    cases ha; cases hb
    cases mn
    · exact ⟨_, .i _ _, by simp [Builtin.max2]⟩
    · exact ⟨_, .i _ _, by simp [Builtin.min2]⟩
  · cases h

theorem mxs_run {P : Program} {w : World} {σ : Names} {mn : Bool} : ∀ {bs : List Val} {cbs : List Value} {a v : Val} {ca : Value}, VRel σ a ca → bs.length = cbs.length →
    (∀ (j : Nat) (v : Val) (c : Value), bs[j]? = some v → cbs[j]? = some c → VRel σ v c) → mxs mn a bs = some v →
    ∃ c, VRel σ v c ∧ ((if mn then cbs.foldlM Builtin.min2 ca else cbs.foldlM Builtin.max2 ca : Sem Value).run P w = .ok c w)
  | [], [], a, v, ca, ha, _, _, h => by cases h; exact ⟨ca, ha, by cases mn <;> rfl⟩
  | [], _ :: _, a, v, ca, ha, hl, _, h => by simp at hl
  | _ :: _, [], a, v, ca, ha, hl, _, h => by simp at hl
  | b :: bs, cb :: cbs, a, v, ca, ha, hl, hr, h => by
    simp only [mxs] at h
    cases h1 : mx2 mn a b with
    | none => simp [h1] at h
    | some c =>
      simp [h1] at h
      obtain ⟨c1, g1, g2⟩ := mx2_run (P := P) (w := w) ha (hr 0 b cb rfl rfl) h1
      obtain ⟨c2, g3, g4⟩ := mxs_run (P := P) (w := w) g1 (by simpa using hl) (fun j v c hj hc => hr (j + 1) v c (by simpa using hj) (by simpa using hc)) h
      refine ⟨c2, g3, ?_⟩
      cases mn
      · simp at g2 g4; simp [g2, g4]
      · simp at g2 g4; simp [g2, g4]

def isLenD : TypeDesc → Nat
  | .string => 1
  | .slice _ => 2
  | .map _ _ => 3
  | _ => 0

theorem ok_len {P : Program} {σ : Names} {H : Heap} {w : World} (r : Rel σ H w) {t ty : TypeId} {d : TypeDesc} (hu : P.underlying t = some d)
    {a v : Val} {ca : Value} (ha : VRel σ a ca) (hk : a.lenNo = isLenD d) (h : lenOf a H = some v) :
    RunOk P (do pure (.value (← Builtin.len_ #[t] ty #[ca]))) σ H w v H := by
  unfold lenOf at h
  split at h
  · cases ha; cases h
    cases d <;> simp [Val.lenNo, isLenD] at hk
    exact RunOk.quiet r (by simp [Builtin.len_, run_underlying hu, goInt]) (.i _ _)
  · cases ha; cases h
    cases d <;> simp [Val.lenNo, isLenD] at hk
    exact RunOk.quiet r (by simp [Builtin.len_, run_underlying hu, goInt]) (.i _ _)
  · cases ha; cases h
    cases d <;> simp [Val.lenNo, isLenD] at hk
    exact RunOk.quiet r (by simp [Builtin.len_, run_underlying hu, goInt]) (.i _ _)
  · cases ha; cases h
    cases d <;> simp [Val.lenNo, isLenD] at hk
    exact RunOk.quiet r (by simp [Builtin.len_, run_underlying hu, goInt]) (.i _ _)
  · rename_i id
    split at h
    · rename_i es ho
      cases h
      cases ha with
      | m hs =>
        rename_i lo
        cases d <;> simp [Val.lenNo, isLenD] at hk
        obtain ⟨E, h1, h2, _⟩ := r.obj id lo _ hs ho
        exact RunOk.quiet r (by simp [Builtin.len_, run_underlying hu, goInt, getObj, Sem.run, h1, h2]) (.i _ _)
    · cases h
  · cases h

theorem ok_mkfn {P : Program} {σ : Names} {H : Heap} {w : World} (r : Rel σ H w) (f : Fn) {a b : List Val} {a' b' : Array Value} (ha : a.length = a'.size) (hb : b.length = b'.size)
    (ra : ∀ (j : Nat) (v : Val) (c : Value), a[j]? = some v → a'[j]? = some c → VRel σ v c) (rb : ∀ (j : Nat) (v : Val) (c : Value), b[j]? = some v → b'[j]? = some c → VRel σ v c) :
    RunOk P (do pure (.value (← Instr.makeFunc f a' b'))) σ H w (.fn f a b) H :=
  RunOk.quiet r (by simp [Instr.makeFunc]) (.fn f ha hb ra rb)

theorem ok_mkif {P : Program} {σ : Names} {H : Heap} {w : World} (r : Rel σ H w) {t : TypeId} {d : TypeDesc} (hu : P.underlying t = some d) (hd : (match d with | .interface _ => false | _ => true) = true) {v : Val} {c : Value} (h : VRel σ v c) :
    RunOk P (do pure (.value (← Instr.makeInterface t c))) σ H w (.ifc t v) H := by
  refine RunOk.quiet r ?_ (.ifc t h)
  cases d <;> simp at hd <;> simp [Instr.makeInterface, run_underlying hu]
end Go.Proofs.YtmdilnelogechaaDoor.Ev
/- From the model's operation to the abstract one: what is built, slices, append. -/
namespace Go.Proofs.YtmdilnelogechaaDoor.Ev
open Go

theorem LRel.set {σ : Names} {a : List Val} {c : Array Value} (h : LRel σ a c) {j : Nat} {v : Val} {x : Value} (hv : VRel σ v x) : LRel σ (a.set j v) (c.setIfInBounds j x) := by
  refine ⟨by simpa using h.1, fun k u y hk hy => ?_⟩
  rw [Array.getElem?_setIfInBounds] at hy
  by_cases hjk : j = k
  · subst hjk
    rw [if_pos rfl] at hy
    split at hy
    · cases hy
      rw [List.getElem?_set_self (by rw [h.1]; assumption)] at hk
      cases hk; exact hv
    · cases hy
  · rw [if_neg hjk] at hy
    rw [List.getElem?_set_ne hjk] at hk
    exact h.2 k u y hk hy

theorem fold_rel {σ : Names} (off : Nat) : ∀ {l : List Val} {xs : List Value} {k : Nat} {a : List Val} {c : Array Value}, LRel σ a c → l.length = xs.length →
    (∀ (j : Nat) (v : Val) (x : Value), l[j]? = some v → xs[j]? = some x → VRel σ v x) →
    LRel σ (wr a (off + k) l) ((xs.zipIdx k).foldl (fun cs (c, j) => cs.setIfInBounds (off + j) c) c)
  | [], [], k, a, c, h, _, _ => by simpa [wr] using h
  | [], _ :: _, _, _, _, _, hl, _ => by simp at hl
  | _ :: _, [], _, _, _, _, hl, _ => by simp at hl
  | v :: l, x :: xs, k, a, c, h, hl, hr => by
    simp only [wr, List.zipIdx_cons, List.foldl_cons]
    have := fold_rel off (k := k + 1) (h.set (j := off + k) (hr 0 v x rfl rfl)) (by simpa using hl) (fun j v x h1 h2 => hr (j + 1) v x (by simpa using h1) (by simpa using h2))
    rwa [show off + (k + 1) = off + k + 1 by omega] at this

def AllOne (c : Array Value) : Prop := ∀ (j : Nat) (x : Value), c[j]? = some x → x.oneCell' = true
theorem fold_one (off : Nat) : ∀ {xs : List Value} {k : Nat} {c : Array Value}, AllOne c → (∀ x ∈ xs, x.oneCell' = true) → AllOne ((xs.zipIdx k).foldl (fun cs (c, j) => cs.setIfInBounds (off + j) c) c)
  | [], k, c, h, _ => by simpa using h
  | x :: xs, k, c, h, hx => by
    simp only [List.zipIdx_cons, List.foldl_cons]
    refine fold_one off (fun j y hy => ?_) (fun y hy => hx y (by simp [hy]))
    rw [Array.getElem?_setIfInBounds] at hy
    split at hy
    · split at hy
      · cases hy; exact hx x (by simp)
      · cases hy
    · exact h j y hy

theorem padTo_length (z : List Val) (ps : List (Nat × List Val)) : (padTo z ps).length = z.length := by
  unfold padTo
  induction ps generalizing z with
  | nil => rfl
  | cons p ps ih => rw [List.foldl_cons, ih, wr_length]

theorem fill_rel {σ : Names} {e : Opd → Val} {ev : Operand → Value} (he : ∀ x y, opd x = some y → VRel σ (e y) (ev x)) {place : Nat → Option (Nat × Nat)} :
    ∀ {qs : List (Nat × Operand)} {ps : List (Nat × Nat × Opd)} {l : List (Nat × List Val)} {z : List Val} {c : Array Value},
    LRel σ z c → qs.length = ps.length →
    (∀ (j : Nat) (q : Nat × Operand) (p : Nat × Nat × Opd), qs[j]? = some q → ps[j]? = some p → opd q.2 = some p.2.2 ∧ place q.1 = some (p.1, p.2.1)) →
    partsOf e ps = some l → l.all (fun p => p.1 + p.2.length ≤ z.length) = true →
    ∃ c', Instr.fill place c (qs.map fun q => (q.1, ev q.2)) = some c' ∧ LRel σ (padTo z l) c' ∧ (AllOne c → AllOne c')
  | [], [], l, z, c, h, _, _, hp, _ => by cases hp; exact ⟨c, rfl, h, id⟩
  | [], _ :: _, _, _, _, _, hl, _, _, _ => by simp at hl
  | _ :: _, [], _, _, _, _, hl, _, _, _ => by simp at hl
  | q :: qs, (off, n, y) :: ps, l, z, c, h, hl, hr, hp, hb => by
    simp only [partsOf] at hp
    cases h1 : (e y).cells? with
    | none => simp [h1] at hp
    | some d =>
      cases h2 : partsOf e ps with
      | none => simp [h1, h2] at hp
      | some m =>
        simp only [h1, h2] at hp
        split at hp
        · rename_i hn
          cases hp
          obtain ⟨g1, g2⟩ := hr 0 q (off, n, y) rfl rfl
          obtain ⟨⟨k1, k2⟩, k3⟩ := cells_rel (he _ _ g1) h1
          simp only [List.all_cons, Bool.and_eq_true, decide_eq_true_eq] at hb
          simp only [] at g2
          have hstep := fold_rel (σ := σ) off (l := d) (xs := (ev q.2).cells.toList) (k := 0) h (by simpa using k1) (fun j v x a b => k2 j v x a (by simpa using b))
          obtain ⟨c', f1, f2, f3⟩ := fill_rel he (qs := qs) (ps := ps) (l := m) (z := wr z off d) (place := place) (by simpa using hstep) (by simpa using hl)
            (fun j q p a b => hr (j + 1) q p (by simpa using a) (by simpa using b)) h2 (by rw [wr_length]; exact hb.2)
          refine ⟨c', ?_, by simpa [padTo] using f2, fun h => f3 (by simpa using fold_one off (k := 0) h k3)⟩
          simp only [List.map_cons, Instr.fill, g2]
          have hsz : (ev q.2).cells.size = n := by rw [← k1]; exact hn
          have hb1 := hb.1
          rw [h.1] at hb1
          rw [hsz]
          rw [if_neg (by simp; omega)]
          have hz0 : (ev q.2).cells.zipIdx.toList = (ev q.2).cells.toList.zipIdx := by simp
          rw [← Array.foldl_toList, hz0]
          exact f1
        · cases hp

/-- A part's place: of a field, or of an element. -/
def partsC (place : Nat → Option (Nat × Nat)) : List (Nat × Operand) → Option (List (Nat × Nat × Opd))
  | [] => some []
  | (i, x) :: r => match place i, opd x, partsC place r with
    | some (o, n), some y, some m => some ((o, n, y) :: m)
    | _, _, _ => none

theorem partsC_rel {place : Nat → Option (Nat × Nat)} : ∀ {qs : List (Nat × Operand)} {ps : List (Nat × Nat × Opd)}, partsC place qs = some ps →
    qs.length = ps.length ∧ ∀ (j : Nat) (q : Nat × Operand) (p : Nat × Nat × Opd), qs[j]? = some q → ps[j]? = some p → opd q.2 = some p.2.2 ∧ place q.1 = some (p.1, p.2.1)
  | [], ps, h => by cases h; simp
  | (i, x) :: r, ps, h => by
    simp only [partsC] at h
    cases h1 : place i with
    | none => simp [h1] at h
    | some on =>
      cases h2 : opd x with
      | none => simp [h1, h2] at h
      | some y =>
        cases h3 : partsC place r with
        | none => simp [h1, h2, h3] at h
        | some m =>
          simp [h1, h2, h3] at h
          subst h
          obtain ⟨a, b⟩ := partsC_rel h3
          refine ⟨by simp [a], fun j q p hq hp => ?_⟩
          cases j with
          | zero => simp at hq hp; subst hq; subst hp; exact ⟨h2, h1⟩
          | succ j => exact b j q p (by simpa using hq) (by simpa using hp)

def placesOf (P : Program) : List Field → Option (List (Nat × Nat))
  | [] => some []
  | f :: r => match P.info? f.type, placesOf P r with
    | some i, some m => some ((f.offset, i.size) :: m)
    | _, _ => none

theorem places_run {P : Program} {w : World} : ∀ {fs : List Field} {ps : List (Nat × Nat)}, placesOf P fs = some ps →
    (fs.mapM (fun f => Prod.mk f.offset <$> sizeOf f.type)).run P w = .ok ps w
  | [], ps, h => by cases h; rfl
  | f :: r, ps, h => by
    simp only [placesOf] at h
    cases h1 : P.info? f.type with
    | none => simp [h1] at h
    | some i =>
      cases h2 : placesOf P r with
      | none => simp [h1, h2] at h
      | some m =>
        simp [h1, h2] at h
        subst h
        have := places_run (w := w) h2
        simp only [List.mapM_cons, Sem.run_bind, Sem.run_map, run_sizeOf' h1, Result.andThen_ok, Sem.run_pure, this]

theorem zero_rel {σ : Names} {z : Value} {zv : Val} {zc : List Val} (hz : ofValue z = some zv) (hc : zv.cells? = some zc) : LRel σ zc z.cells := (cells_rel (ofValue_rel σ hz) hc).1

theorem zero_one {z : Value} {zv : Val} {zc : List Val} (hz : ofValue z = some zv) (hc : zv.cells? = some zc) : AllOne z.cells :=
  fun j x h => (cells_rel (ofValue_rel (fun _ => none) hz) hc).2 x (by obtain ⟨hj, e⟩ := Array.getElem?_eq_some_iff.1 h; rw [← e]; simp)

theorem range_one {c : Array Value} (h : AllOne c) (m : Nat) (hc : 0 < m → 0 < c.size) : AllOne ((Array.range m).map (fun j => c[j % c.size]!)) := by
  intro j x hx
  have hjm : j < m := by
    rcases Nat.lt_or_ge j m with h' | h'
    · exact h'
    · rw [Array.getElem?_eq_none (by simpa using h')] at hx; cases hx
  simp [hjm] at hx
  have hs : j % c.size < c.size := Nat.mod_lt _ (hc (by omega))
  rw [getElem!_pos c _ hs] at hx
  exact h _ x (by rw [Array.getElem?_eq_getElem hs, hx])

theorem ok_build {P : Program} {σ : Names} {H : Heap} {w : World} (r : Rel σ H w) {t : TypeId} {i : TypeInfo} {z : Value} {zv : Val} {zc : List Val} (hi : P.info? t = some i) (hz : i.zero = some z) (hzv : ofValue z = some zv) (hzc : zv.cells? = some zc)
    {place : Nat → Option (Nat × Nat)}
    (hu : (∃ fs ps, P.underlying t = some (.struct fs) ∧ placesOf P fs.toList = some ps ∧ place = fun i => ps[i]?) ∨
      ∃ n e ie, P.underlying t = some (.array n e) ∧ P.info? e = some ie ∧ place = fun i => some (i * ie.size, ie.size))
    {e : Opd → Val} {ev : Operand → Value} (he : ∀ x y, opd x = some y → VRel σ (e y) (ev x)) {parts : Array (Nat × Operand)} {ps : List (Nat × Nat × Opd)} (hp : partsC place parts.toList = some ps)
    {l : List (Nat × List Val)} (hl : partsOf e ps = some l) (hb : l.all (fun p => p.1 + p.2.length ≤ zc.length) = true) :
    RunOk P (do pure (.value (← Instr.build t (parts.map fun (i, x) => (i, ev x))))) σ H w (.agg (padTo zc l)) H := by
  obtain ⟨a, b⟩ := partsC_rel hp
  obtain ⟨c', f1, f2, _⟩ := fill_rel he (zero_rel (σ := σ) hzv hzc) a b hl hb
  refine RunOk.quiet (c := .agg c') r ?_ (.agg f2.1 f2.2)
  rcases hu with ⟨fs, qs, h1, h2, h3⟩ | ⟨n, e', ie, h1, h2, h3⟩
  · subst h3
    have hm := places_run (w := w) h2
    simp [Instr.build, run_zeroValue' hi hz, run_underlying h1, Array.mapM_eq_mapM_toList, hm, f1]
  · subst h3
    simp [Instr.build, run_zeroValue' hi hz, run_underlying h1, run_sizeOf' h2, f1]

theorem mk_length (z : List Val) (n : Nat) : (mk z n).length = n * z.length := by
  unfold mk
  split
  · simp
  · simp [List.length_flatten]

theorem mk_get (z : List Val) (n j : Nat) (h : j < n * z.length) : (mk z n)[j]? = z[j % z.length]? := by
  have flat : ∀ n j, j < n * z.length → ((List.replicate n z).flatten)[j]? = z[j % z.length]? := by
    intro n
    induction n with
    | zero => intro j h; simp at h
    | succ n ih =>
      intro j h
      rw [List.replicate_succ, List.flatten_cons]
      by_cases hj : j < z.length
      · rw [List.getElem?_append_left hj, Nat.mod_eq_of_lt hj]
      · rw [List.getElem?_append_right (by omega), ih (j - z.length) (by rw [Nat.succ_mul] at h; omega)]
        rw [← Nat.mod_eq_sub_mod (by omega)]
  unfold mk
  split
  · rename_i x
    simp at h
    simp [h, Nat.mod_one]
  · exact flat n j h

theorem range_rel {σ : Names} {z : List Val} {c : Array Value} (h : LRel σ z c) (n m : Nat) (hm : m = n * z.length) :
    ((Array.range m).map (fun j => c[j % c.size]!)).size = m ∧ ∀ (j : Nat) (v : Val) (x : Value), (mk z n)[j]? = some v → ((Array.range m).map (fun j => c[j % c.size]!))[j]? = some x → VRel σ v x := by
  refine ⟨by simp, fun j v x hj hx => ?_⟩
  have hjm : j < m := by
    rcases Nat.lt_or_ge j m with h' | h'
    · exact h'
    · rw [Array.getElem?_eq_none (by simpa using h')] at hx; cases hx
  rw [mk_get z n j (by omega)] at hj
  have hz : 0 < z.length := by
    rcases Nat.eq_zero_or_pos z.length with h0 | h0
    · rw [h0] at hm; omega
    · exact h0
  have hmod : j % z.length < z.length := Nat.mod_lt _ hz
  simp [hjm] at hx
  rw [← hx, ← h.1]
  refine h.2 (j % z.length) v _ hj ?_
  have hc : j % z.length < c.size := by rw [← h.1]; exact hmod
  rw [Array.getElem?_eq_getElem hc, getElem!_pos c _ hc]

theorem alloc_mksl {P : Program} {σ : Names} {w : World} {t e : TypeId} {i : TypeInfo} {z : Value} {zv : Val} {zc : List Val} (hu : P.underlying t = some (.slice e)) (hi : P.info? e = some i)
    (hz : i.zero = some z) (hzv : ofValue z = some zv) (hzc : zv.cells? = some zc) (hsz : zc.length = i.size) {kl kc : IntKind} {l c : Int} {cl cc : Value} (hl : VRel σ (.i kl l) cl) (hc : VRel σ (.i kc c) cc)
    (h0 : 0 ≤ IntKind.i64.wrap l) (h1 : IntKind.i64.wrap l ≤ IntKind.i64.wrap c) (h2 : (i.bytes : Int) * IntKind.i64.wrap c ≤ 281474976710656) :
    AllocOk P (do pure (.value (← Instr.makeSlice t cl cc))) σ w (fun id => .sl id 0 (IntKind.i64.wrap l).toNat i.size) (mk zc (IntKind.i64.wrap l).toNat) := by
  cases hl; cases hc
  have hzr := zero_rel (σ := σ) hzv hzc
  have hl' : (IntKind.i64.wrap l).toNat ≤ (IntKind.i64.wrap c).toNat := by omega
  generalize hL : (IntKind.i64.wrap l).toNat = L at *
  generalize hC : (IntKind.i64.wrap c).toNat = C at *
  have hrow : ∃ row : Array Value, row.size = C * i.size ∧ (∀ (j : Nat) (v : Val) (x : Value), (mk zc L)[j]? = some v → row[j]? = some x → VRel σ v x) ∧ AllOne row ∧
      (Instr.makeSlice t (.int kl l) (.int kc c)).run P w = .ok (.slice (some ⟨w.heap.size, 0, none⟩) L C) (w.alloc (.cells row e (0, 0))) := by
    by_cases hn : C * i.size = 0
    · refine ⟨(Array.range 0).map (fun _ => default), by simp [hn], by simp, by intro j x hx; simp at hx, ?_⟩
      simp [Instr.makeSlice, run_underlying hu, asInt, asIntOf, run_typeInfo' hi, run_sizeOf' hi, hL, hC, hn, newRow]
      intro hbad
      exfalso
      omega
    · refine ⟨(Array.range (C * i.size)).map (fun j => z.cells[j % z.cells.size]!), by simp, fun j v x hj hx => ?_, range_one (zero_one hzv hzc) _ (fun hp => by have := hzr.1; rw [hsz] at this; rw [← this]; exact Nat.pos_of_ne_zero (fun h => by rw [h] at hp; simp at hp)), ?_⟩
      · have hjL : j < L * zc.length := by
          rcases Nat.lt_or_ge j (L * zc.length) with h' | h'
          · exact h'
          · rw [List.getElem?_eq_none (by rw [mk_length]; exact h')] at hj; cases hj
        refine (range_rel hzr C (C * i.size) (by rw [hsz])).2 j v x ?_ hx
        rw [mk_get zc C j (Nat.lt_of_lt_of_le hjL (Nat.mul_le_mul_right _ hl')), ← mk_get zc L j hjL]
        exact hj
      · simp [Instr.makeSlice, run_underlying hu, asInt, asIntOf, run_typeInfo' hi, run_sizeOf' hi, hL, hC, hn, newRow, run_zeroValue' hi hz]
        intro hbad
        exfalso
        omega
  obtain ⟨row, g1, g2, g4, g3⟩ := hrow
  exact ⟨row, e, .slice (some ⟨w.heap.size, 0, none⟩) L C, by simp only [Sem.run_bind, g3, Result.andThen_ok, Sem.run_pure], by rw [mk_length, g1, hsz]; exact Nat.mul_le_mul_right _ hl', g2, fun j x _ h => g4 j x h,
    fun τ id h => .sl (oc := 0) h hl' (by simp [g1]) (by intro _; simp)⟩

theorem bslice_rel {P : Program} {σ : Names} {w : World} (e : TypeId) {i : TypeInfo} {z : Value} (hi : P.info? e = some i) (hz : i.zero = some z) {zv : Val} {zc : List Val} (hzv : ofValue z = some zv) (hzc : zv.cells? = some zc) (n : Nat) (hsz : zc.length = i.size) :
    ∃ row : Array Value, LRel σ (mk zc n) row ∧ AllOne row ∧ (if n * i.size = 0 then pure #[] else do pure (← zeroValue e).cells : Sem (Array Value)).run P w = .ok (if n * i.size = 0 then #[] else z.cells) w ∧
      row = (Array.range (n * i.size)).map ((if n * i.size = 0 then #[] else z.cells)[· % (if n * i.size = 0 then #[] else z.cells).size]!) := by
  have hzr := zero_rel (σ := σ) hzv hzc
  refine ⟨_, ?_, ?_, ?_, rfl⟩
  · by_cases hn : n * i.size = 0
    · simp [hn, LRel, mk_length, hsz]
    · have := range_rel hzr n (n * i.size) (by rw [hsz])
      simp only [hn, if_false]
      exact ⟨by rw [mk_length, this.1, hsz], this.2⟩
  · by_cases hn : n * i.size = 0
    · intro j x hx; simp [hn] at hx
    · simp only [hn, if_false]
      exact range_one (zero_one hzv hzc) _ (fun _ => by have := hzr.1; rw [hsz] at this; rw [← this]; exact Nat.pos_of_ne_zero (by rintro h; rw [h] at hn; simp at hn))
  · by_cases hn : n * i.size = 0
    · simp [hn]
    · simp [hn, run_zeroValue' hi hz]

theorem alloc_bslice {P : Program} {σ : Names} {w : World} {t e : TypeId} {i : TypeInfo} {z : Value} {zv : Val} {zc : List Val} (hu : P.underlying t = some (.slice e)) (hi : P.info? e = some i)
    (hz : i.zero = some z) (hzv : ofValue z = some zv) (hzc : zv.cells? = some zc) (hsz : zc.length = i.size) {n : Nat} (hn : n * i.size ≤ 16777216)
    {ev : Operand → Value} {ee : Opd → Val} (he : ∀ x y, opd x = some y → VRel σ (ee y) (ev x)) {parts : Array (Nat × Operand)} {ps : List (Nat × Nat × Opd)} (hp : partsC (fun j => some (j * i.size, i.size)) parts.toList = some ps)
    {l : List (Nat × List Val)} (hl : partsOf ee ps = some l) (hb : l.all (fun p => p.1 + p.2.length ≤ (mk zc n).length) = true) :
    AllocOk P (do pure (.value (← Instr.buildSlice t n (parts.map fun (i, x) => (i, ev x))))) σ w (fun id => .sl id 0 n i.size) (padTo (mk zc n) l) := by
  obtain ⟨row, g1, g4, g2, g3⟩ := bslice_rel (P := P) (σ := σ) (w := w) e hi hz hzv hzc n hsz
  obtain ⟨a, b⟩ := partsC_rel hp
  obtain ⟨c', f1, f2, f3⟩ := fill_rel (place := fun j => some (j * i.size, i.size)) he g1 a b hl hb
  have hcs : c'.size = n * i.size := by rw [← f2.1, padTo_length, mk_length, hsz]
  have hrun : (Instr.buildSlice t n (parts.map fun (i, x) => (i, ev x))).run P w = .ok (.slice (some ⟨w.heap.size, 0, none⟩) n n) (w.alloc (.cells c' e (0, 0))) := by
    have hlim : ¬ n * i.size > 2 ^ 24 := by omega
    have hmap : (parts.map fun (i, x) => (i, ev x)).toList = parts.toList.map fun q => (q.1, ev q.2) := by simp
    by_cases hn0 : n * i.size = 0
    · simp only [hn0, if_true] at g2 g3
      rw [g3] at f1
      simp only [Instr.buildSlice, Sem.run_bind, run_underlying hu, Result.andThen_ok, run_sizeOf' hi, show ¬ 0 > 2 ^ 24 by decide, if_false, hmap, hn0, if_true, Sem.run_pure]
      rw [f1]
      simp [newRow]
    · simp only [hn0, if_false] at g2 g3
      rw [g3] at f1
      simp only [Instr.buildSlice, Sem.run_bind, run_underlying hu, Result.andThen_ok, run_sizeOf' hi, hlim, if_false, hmap, hn0, run_zeroValue' hi hz, Sem.run_pure]
      rw [f1]
      simp [newRow]
  exact ⟨c', e, .slice (some ⟨w.heap.size, 0, none⟩) n n, by simp only [Sem.run_bind, hrun, Result.andThen_ok, Sem.run_pure], Nat.le_of_eq f2.1, f2.2, fun j x _ h => f3 g4 j x h,
    fun τ id h => .sl (oc := 0) h (Nat.le_refl _) (by simp [hcs]) (by intro _; simp)⟩
end Go.Proofs.YtmdilnelogechaaDoor.Ev
/- Equality of structs whose cells are numbers, bools and texts. -/
namespace Go.Proofs.YtmdilnelogechaaDoor.Ev
open Go

def flatFs (P : Program) (g : TypeId → Option (List Nat)) : List Field → Nat → Option (List Nat)
  | [], _ => some []
  | f :: r, off => if f.name = "_" ∨ f.offset ≠ off then none else do
    let ks ← g f.type
    let i ← P.info? f.type
    if i.size ≠ ks.length then none else do
      let m ← flatFs P g r (off + ks.length)
      return ks ++ m

def flatK (P : Program) : Nat → TypeId → Option (List Nat)
  | 0, _ => none
  | n + 1, t => match P.underlying t with
    | some (.int _) => some [0]
    | some .bool => some [1]
    | some .string => some [2]
    | some (.struct fs) => if P.stoodInHeld t then none else flatFs P (flatK P n) fs.toList 0
    | some (.array len e) => do
      let ks ← flatK P n e
      let i ← P.info? e
      if i.size = ks.length then some (List.replicate len ks).flatten else none
    | _ => none

/-- Cells stand for a part of an array of cells. -/
def PRel (σ : Names) (a : List Val) (xs : Array Value) (off : Nat) : Prop :=
  ∀ (j : Nat) (v : Val), a[j]? = some v → ∃ x, xs[off + j]? = some x ∧ VRel σ v x

theorem ceqs_len : ∀ {ks : List Nat} {a b : List Val} {q : Bool}, ceqs ks a b = some q → a.length = ks.length ∧ b.length = ks.length
  | [], [], [], _, _ => ⟨rfl, rfl⟩
  | k :: ks, a :: as, b :: bs, q, h => by
    simp only [ceqs] at h
    split at h
    · rename_i p r h1 h2
      have := ceqs_len h2
      simp [this.1, this.2]
    · cases h
  | [], [], _ :: _, _, h => by cases h
  | [], _ :: _, _, _, h => by cases h
  | _ :: _, [], _, _, h => by cases h
  | _ :: _, _ :: _, [], _, h => by cases h

theorem ceqs_app : ∀ {ks ms : List Nat} {a b : List Val} {q : Bool}, ceqs (ks ++ ms) a b = some q →
    ∃ p r, ceqs ks (a.take ks.length) (b.take ks.length) = some p ∧ ceqs ms (a.drop ks.length) (b.drop ks.length) = some r ∧ q = (p && r)
  | [], ms, a, b, q, h => ⟨true, q, rfl, h, by simp⟩
  | k :: ks, ms, [], _, _, h => by cases h
  | k :: ks, ms, _ :: _, [], _, h => by cases h
  | k :: ks, ms, x :: as, y :: bs, q, h => by
    simp only [List.cons_append, ceqs] at h
    split at h
    · rename_i p r h1 h2
      cases h
      obtain ⟨p', r', h3, h4, h5⟩ := ceqs_app h2
      refine ⟨p && p', r', ?_, h4, by rw [h5, Bool.and_assoc]⟩
      simp only [List.length_cons, List.take_succ_cons, ceqs, h1, h3]
    · cases h

theorem eq_flat {P : Program} {w : World} {σ : Names} : ∀ (n : Nat) (t : TypeId) (ks : List Nat), flatK P n t = some ks → ∀ (d : Nat), n ≤ d →
    ∀ (i : TypeInfo), P.info? t = some i → i.size = ks.length →
    ∀ (a b : List Val) (xs ys : Array Value) (off : Nat), PRel σ a xs off → PRel σ b ys off → ∀ q, ceqs ks a b = some q →
    (part t xs off >>= fun u => part t ys off >>= fun v => Op.equalIn d t u v).run P w = .ok q w
  | 0, t, ks, h, _, _, _, _, _, _, _, _, _, _, _, _, _, _ => by cases h
  | n + 1, t, ks, h, d + 1, hd, i, hi, hz, a, b, xs, ys, off, ha, hb, q, hq => by
    have hl := ceqs_len hq
    simp only [flatK] at h
    split at h
    · rename_i k hu
      cases h
      match a, b, hl with
      | [x], [y], _ =>
        simp only [ceqs] at hq
        obtain ⟨cx, hx, rx⟩ := ha 0 x rfl
        obtain ⟨cy, hy, ry⟩ := hb 0 y rfl
        rw [Nat.add_zero] at hx hy
        cases x <;> cases y <;> first
          | (simp [ceq] at hq; done)
          | skip
        rename_i k1 n1 k2 n2 _
        simp only [ceq] at hq
        by_cases hk : k1 = k2
        case neg => simp [hk] at hq
        subst hk
        simp at hq
        subst hq
        cases rx; cases ry
        simp only [part, Sem.run_bind, run_isAgg' hu, isAggD, Result.andThen_ok, Bool.false_eq_true, if_false, hx, hy, Sem.run_pure]
        exact run_equalIn_int w d t _ _ _ _ hu
    · rename_i hu
      cases h
      match a, b, hl with
      | [x], [y], _ =>
        simp only [ceqs] at hq
        obtain ⟨cx, hx, rx⟩ := ha 0 x rfl
        obtain ⟨cy, hy, ry⟩ := hb 0 y rfl
        rw [Nat.add_zero] at hx hy
        cases x <;> cases y <;> simp [ceq] at hq
        cases rx; cases ry
        subst hq
        simp only [part, Sem.run_bind, run_isAgg' hu, isAggD, Result.andThen_ok, Bool.false_eq_true, if_false, hx, hy, Sem.run_pure]
        exact run_equalIn_bool' w d t _ _ hu
    · rename_i hu
      cases h
      match a, b, hl with
      | [x], [y], _ =>
        simp only [ceqs] at hq
        obtain ⟨cx, hx, rx⟩ := ha 0 x rfl
        obtain ⟨cy, hy, ry⟩ := hb 0 y rfl
        rw [Nat.add_zero] at hx hy
        cases x <;> cases y <;> simp [ceq] at hq
        cases rx; cases ry
        subst hq
        simp only [part, Sem.run_bind, run_isAgg' hu, isAggD, Result.andThen_ok, Bool.false_eq_true, if_false, hx, hy, Sem.run_pure]
        exact run_equalIn_string w d t _ _ hu
    · rename_i fs hu
      split at h
      · cases h
      · rename_i hs
        have hfs : P.fieldsOf t = fs := by simp only [Program.fieldsOf, hu]
        have hxs : PRel σ a (xs.extract off (off + i.size)) 0 := by
          intro j v hv
          obtain ⟨x, h1, h2⟩ := ha j v hv
          have hj := (List.getElem?_eq_some_iff.1 hv).1
          refine ⟨x, ?_, h2⟩
          have := (Array.getElem?_eq_some_iff.1 h1).1
          rw [Array.getElem?_extract, if_pos (by omega), Nat.zero_add, h1]
        have hys : PRel σ b (ys.extract off (off + i.size)) 0 := by
          intro j v hv
          obtain ⟨x, h1, h2⟩ := hb j v hv
          have hj := (List.getElem?_eq_some_iff.1 hv).1
          refine ⟨x, ?_, h2⟩
          have := (Array.getElem?_eq_some_iff.1 h1).1
          rw [Array.getElem?_extract, if_pos (by omega), Nat.zero_add, h1]
        simp only [part, Sem.run_bind, run_isAgg' hu, isAggD, Result.andThen_ok, if_true, run_sizeOf' hi, Sem.run_pure]
        rw [run_equalIn_struct w d t _ _ (by rw [hfs]; exact hu) (by simpa using hs), hfs]
        generalize xs.extract off (off + i.size) = xs' at hxs
        generalize ys.extract off (off + i.size) = ys' at hys
        generalize fs.toList = l at h
        clear hfs hu hs hz hi ha hb hl
        generalize hoff : (0 : Nat) = o at h hxs hys
        clear hoff
        induction l generalizing o ks a b q with
        | nil => cases h; cases a <;> cases b <;> simp [ceqs] at hq; subst hq; rfl
        | cons f l ih =>
          simp only [flatFs] at h
          split at h
          · cases h
          · rename_i hn
            obtain ⟨ks1, g1, h⟩ := Option.bind_eq_some_iff.1 h
            obtain ⟨i1, g2, h⟩ := Option.bind_eq_some_iff.1 h
            split at h
            · cases h
            · rename_i g3
              obtain ⟨m, g4, h⟩ := Option.bind_eq_some_iff.1 h
              cases h
              obtain ⟨p, r, c1, c2, rfl⟩ := ceqs_app hq
              have hn1 : f.name ≠ "_" := fun e => hn (.inl e)
              have hn2 : f.offset = o := Decidable.byContradiction fun e => hn (.inr e)
              have g3' : i1.size = ks1.length := Decidable.byContradiction g3
              have one := eq_flat (w := w) n f.type ks1 g1 d (by omega) i1 g2 g3' (a.take ks1.length) (b.take ks1.length) xs' ys' o
                (fun j v hv => hxs j v (by rw [List.getElem?_take] at hv; split at hv; exact hv; cases hv)) (fun j v hv => hys j v (by rw [List.getElem?_take] at hv; split at hv; exact hv; cases hv)) p c1
              have rest := ih m (a.drop ks1.length) (b.drop ks1.length) r c2 (o + ks1.length) g4
                (fun j v hv => by obtain ⟨x, h1, h2⟩ := hxs (ks1.length + j) v (by rw [List.getElem?_drop] at hv; exact hv); exact ⟨x, by rw [Nat.add_assoc]; exact h1, h2⟩)
                (fun j v hv => by obtain ⟨x, h1, h2⟩ := hys (ks1.length + j) v (by rw [List.getElem?_drop] at hv; exact hv); exact ⟨x, by rw [Nat.add_assoc]; exact h1, h2⟩)
              subst hn2
              simp only [Op.eqFields]
              rw [if_pos hn1]
              have e : (do
                  let a ← part f.type xs' f.offset
                  let b ← part f.type ys' f.offset
                  let r ← Op.equalIn d f.type a b
                  if (!r) = true then pure false else Op.eqFields d xs' ys' l) = ((part f.type xs' f.offset >>= fun u => part f.type ys' f.offset >>= fun v => Op.equalIn d f.type u v) >>= fun r => if (!r) = true then pure false else Op.eqFields d xs' ys' l) := by
                simp only [bind_assoc]
              rw [e, Sem.run_bind, one, Result.andThen_ok]
              cases p
              · rfl
              · simpa using rest
    · rename_i len el hu
      obtain ⟨ks0, g1, h0⟩ := Option.bind_eq_some_iff.1 h
      clear h
      obtain ⟨i0, g2, h1⟩ := Option.bind_eq_some_iff.1 h0
      clear h0
      split at h1
      case isFalse => cases h1
      rename_i g3
      obtain rfl := Option.some.inj h1
      clear h1
      have hxs : PRel σ a (xs.extract off (off + i.size)) 0 := by
        intro j v hv
        obtain ⟨x, h1, h2⟩ := ha j v hv
        have hj := (List.getElem?_eq_some_iff.1 hv).1
        refine ⟨x, ?_, h2⟩
        have := (Array.getElem?_eq_some_iff.1 h1).1
        rw [Array.getElem?_extract, if_pos (by omega), Nat.zero_add, h1]
      have hys : PRel σ b (ys.extract off (off + i.size)) 0 := by
        intro j v hv
        obtain ⟨x, h1, h2⟩ := hb j v hv
        have hj := (List.getElem?_eq_some_iff.1 hv).1
        refine ⟨x, ?_, h2⟩
        have := (Array.getElem?_eq_some_iff.1 h1).1
        rw [Array.getElem?_extract, if_pos (by omega), Nat.zero_add, h1]
      simp only [part, Sem.run_bind, run_isAgg' hu, isAggD, Result.andThen_ok, if_true, run_sizeOf' hi, Sem.run_pure]
      rw [run_equalIn_array w d _ _ hu g2]
      have hc : P.cellsOf el = ks0.length := by
        have : P.cellsOf el = i0.size := by simp [Program.cellsOf, g2]
        rw [this, g3]
      rw [hc, List.range_eq_range']
      generalize xs.extract off (off + i.size) = xs' at hxs
      generalize ys.extract off (off + i.size) = ys' at hys
      clear hl hz hu hi ha hb
      replace hxs : PRel σ a xs' (0 * ks0.length) := by simpa using hxs
      replace hys : PRel σ b ys' (0 * ks0.length) := by simpa using hys
      generalize (0 : Nat) = s at hxs hys ⊢
      induction len generalizing s a b q with
      | zero =>
        cases a <;> cases b <;> simp [ceqs] at hq
        subst hq; rfl
      | succ len ih =>
        rw [List.replicate_succ, List.flatten_cons] at hq
        obtain ⟨p, r, c1, c2, rfl⟩ := ceqs_app hq
        have one := eq_flat (w := w) n el ks0 g1 d (by omega) i0 g2 g3 (a.take ks0.length) (b.take ks0.length) xs' ys' (s * ks0.length)
          (fun j v hv => hxs j v (by rw [List.getElem?_take] at hv; split at hv; exact hv; cases hv)) (fun j v hv => hys j v (by rw [List.getElem?_take] at hv; split at hv; exact hv; cases hv)) p c1
        have ea : (s + 1) * ks0.length = s * ks0.length + ks0.length := Nat.succ_mul _ _
        have rest := ih (a.drop ks0.length) (b.drop ks0.length) r c2 (s + 1)
          (fun j v hv => by obtain ⟨x, h1, h2⟩ := hxs (ks0.length + j) v (by rw [List.getElem?_drop] at hv; exact hv); exact ⟨x, by rw [ea, Nat.add_assoc]; exact h1, h2⟩)
          (fun j v hv => by obtain ⟨x, h1, h2⟩ := hys (ks0.length + j) v (by rw [List.getElem?_drop] at hv; exact hv); exact ⟨x, by rw [ea, Nat.add_assoc]; exact h1, h2⟩)
        simp only [List.range'_succ, Op.eqItems]
        have e : (do
            let a ← part el xs' (s * ks0.length)
            let b ← part el ys' (s * ks0.length)
            let r ← Op.equalIn d el a b
            if (!r) = true then pure false else Op.eqItems d el ks0.length xs' ys' (List.range' (s + 1) len)) = ((part el xs' (s * ks0.length) >>= fun u => part el ys' (s * ks0.length) >>= fun v => Op.equalIn d el u v) >>= fun r => if (!r) = true then pure false else Op.eqItems d el ks0.length xs' ys' (List.range' (s + 1) len)) := by
          simp only [bind_assoc]
        rw [e, Sem.run_bind, one, Result.andThen_ok]
        cases p
        · rfl
        · simpa using rest
    · cases h

theorem ok_eqs {P : Program} {σ : Names} {H : Heap} {w : World} (r : Rel σ H w) {neg : Bool} {t : TypeId} {d : TypeDesc} {i : TypeInfo} {ks : List Nat} (hu : P.underlying t = some d) (hd : isAggD d = true) (hk : flatK P 50 t = some ks)
    (hi : P.info? t = some i) (hz : i.size = ks.length) (hg : P.eqGuardType P.depth t = false) (x y : Operand) {a b : Val} {ca cb : Value} (ha : VRel σ a ca) (hb : VRel σ b cb) {q : Bool} (h : eqc ks a b = some q) :
    RunOk P (do pure (.value (← (do eqGuard (if neg then .neq else .eql) t x y ca cb; binOp (if neg then .neq else .eql) t ca cb)))) σ H w (.b (if neg then !q else q)) H := by
  unfold eqc at h
  split at h
  · rename_i as bs
    cases ha with
    | agg la ra =>
      rename_i xs
      cases hb with
      | agg lb rb =>
        rename_i ys
        have px : PRel σ as xs 0 := fun j v hv => by
          have hj : j < xs.size := by rw [← la]; exact (List.getElem?_eq_some_iff.1 hv).1
          exact ⟨xs[j], by rw [Nat.zero_add, Array.getElem?_eq_getElem hj], ra j v _ hv (Array.getElem?_eq_getElem hj)⟩
        have py : PRel σ bs ys 0 := fun j v hv => by
          have hj : j < ys.size := by rw [← lb]; exact (List.getElem?_eq_some_iff.1 hv).1
          exact ⟨ys[j], by rw [Nat.zero_add, Array.getElem?_eq_getElem hj], rb j v _ hv (Array.getElem?_eq_getElem hj)⟩
        have hl := ceqs_len h
        have main := eq_flat (P := P) (w := w) 50 t ks hk 10000 (by omega) i hi hz as bs xs ys 0 px py q h
        have ex : xs.extract 0 (0 + i.size) = xs := by rw [Nat.zero_add, hz, ← hl.1, la, Array.extract_size]
        have ey : ys.extract 0 (0 + i.size) = ys := by rw [Nat.zero_add, hz, ← hl.2, lb, Array.extract_size]
        simp only [part, Sem.run_bind, run_isAgg' hu, hd, Result.andThen_ok, if_true, run_sizeOf' hi, Sem.run_pure, ex, ey] at main
        refine RunOk.quiet (c := .bool (if neg then !q else q)) r ?_ (.b _)
        cases neg
        · simp only [Bool.false_eq_true, if_false, Sem.run_bind, run_eqGuard_agg w .eql t x y xs ys hg, Result.andThen_ok, run_eql_struct, main, Sem.run_pure]
        · simp only [if_true, Sem.run_bind, run_eqGuard_agg w .neq t x y xs ys hg, Result.andThen_ok, run_neq_struct, main, Sem.run_pure]
  · cases h
end Go.Proofs.YtmdilnelogechaaDoor.Ev
/- From the model's operation to the abstract one: slices, append. -/
namespace Go.Proofs.YtmdilnelogechaaDoor.Ev
open Go

theorem oopd_rel {σ : Names} {ee : Opd → Val} {ev : Operand → Value} (he : ∀ x y, opd x = some y → VRel σ (ee y) (ev x)) {o : Option Operand} {o' : Option Opd} (ho : oopd o = some o') :
    (o = none ∧ o' = none) ∨ ∃ x y, o = some x ∧ o' = some y ∧ VRel σ (ee y) (ev x) := by
  cases o with
  | none => cases ho; exact .inl ⟨rfl, rfl⟩
  | some x =>
    simp only [oopd, Option.map_eq_some_iff] at ho
    obtain ⟨y, h1, h2⟩ := ho
    exact .inr ⟨x, y, rfl, h2.symm, he x y h1⟩

theorem sliceBound_run {P : Program} {w : World} {k : IntKind} {n : Int} {y : Nat} {code : BoundsCode} (h0 : 0 ≤ n) (h1 : n ≤ y) :
    (Instr.sliceBound (.int k n) y code).run P w = .ok n.toNat w := by
  simp [Instr.sliceBound, asIntOf, h0, h1]

/-- Both bounds. -/
theorem bounds_run {P : Program} {w : World} {σ : Names} {ee : Opd → Val} {ev : Operand → Value} (he : ∀ x y, opd x = some y → VRel σ (ee y) (ev x)) {lo hi : Option Operand} {lo' hi' : Option Opd} (hlo : oopd lo = some lo') (hhi : oopd hi = some hi')
    {len cap : Nat} {isS : Bool} {l h : Int} (hl : bnd ee 0 lo' = some l) (hh : bnd ee len hi' = some h) (h0 : 0 ≤ l) (h1 : l ≤ h) (h2 : h ≤ len) (h3 : len ≤ cap) :
    (Instr.sliceBounds isS len cap (lo.map ev) (hi.map ev) none).run P w = .ok (l.toNat, h.toNat, cap) w := by
  have hH : (match hi.map ev with
      | some v => Instr.sliceBound v cap (if isS then .sliceAcap else .sliceAlen)
      | none => pure len : Sem Nat).run P w = .ok h.toNat w := by
    rcases oopd_rel he hhi with ⟨h4, h5⟩ | ⟨x, y, h4, h5, h6⟩
    · subst h4; subst h5
      simp [bnd] at hh
      subst hh
      simp
    · subst h4; subst h5
      simp only [bnd] at hh
      split at hh
      · rename_i k n hn
        cases hh
        rw [hn] at h6
        simp only [Option.map_some]
        generalize ev x = cx at *
        cases h6
        exact sliceBound_run (y := cap) (by omega) (by omega)
      · cases hh
  have hL : ∀ (c : BoundsCode), (match lo.map ev with
      | some v => Instr.sliceBound v h.toNat c
      | none => pure 0 : Sem Nat).run P w = .ok l.toNat w := by
    intro c
    rcases oopd_rel he hlo with ⟨h4, h5⟩ | ⟨x, y, h4, h5, h6⟩
    · subst h4; subst h5
      simp [bnd] at hl
      subst hl
      simp
    · subst h4; subst h5
      simp only [bnd] at hl
      split at hl
      · rename_i k n hn
        cases hl
        rw [hn] at h6
        simp only [Option.map_some]
        generalize ev x = cx at *
        cases h6
        exact sliceBound_run (y := h.toNat) (by omega) (by omega)
      · cases hl
  unfold Instr.sliceBounds
  generalize lo.map ev = lo at *
  generalize hi.map ev = hi at *
  cases hi with
  | none =>
    simp only [Sem.run_pure, Sem.run_bind, Result.andThen_ok] at hH ⊢
    cases hH
    have := hL .sliceB
    cases lo with
    | none => simp at this ⊢; exact this
    | some v => simp at this ⊢; simp [this]
  | some v =>
    simp only [Sem.run_pure, Sem.run_bind, Result.andThen_ok] at hH ⊢
    rw [hH]
    have := hL .sliceB
    cases lo with
    | none => simp at this ⊢; exact this
    | some v => simp at this ⊢; simp [this]

theorem ok_slice {P : Program} {σ : Names} {H : Heap} {w : World} (r : Rel σ H w) {t e : TypeId} {i : TypeInfo} (hu : P.underlying t = some (.slice e)) (hi : P.info? e = some i)
    {ee : Opd → Val} {ev : Operand → Value} (he : ∀ x y, opd x = some y → VRel σ (ee y) (ev x)) {lo hi' : Option Operand} {lo2 hi2 : Option Opd} (hlo : oopd lo = some lo2) (hhi : oopd hi' = some hi2)
    {id off len : Nat} {ca : Value} (ha : VRel σ (.sl id off len i.size) ca) {l h : Int} (hl : bnd ee 0 lo2 = some l) (hh : bnd ee len hi2 = some h) (h0 : 0 ≤ l) (h1 : l ≤ h) (h2 : h ≤ len) :
    RunOk P (do pure (.value (← Instr.sliceAt t ca (lo.map ev) (hi'.map ev) none))) σ H w (.sl id (off + l.toNat * i.size) (h.toNat - l.toNat) i.size) H := by
  cases ha with
  | sl hs hle hz ho =>
    rename_i oc cap lc
    have hb := fun (b : Bool) => bounds_run (P := P) (w := w) (isS := b) (cap := cap) he hlo hhi hl hh h0 h1 h2 hle
    have hrun : ∃ oc', (Instr.sliceAt t (.slice (some ⟨lc.blk, oc, none⟩) len cap) (lo.map ev) (hi'.map ev) none).run P w = .ok (.slice (some ⟨lc.blk, oc', none⟩) (h.toNat - l.toNat) (cap - l.toNat)) w ∧
        (oc' = if cap = l.toNat then oc else oc + l.toNat * i.size) := by
      refine ⟨_, ?_, rfl⟩
      simp only [Instr.sliceAt, Instr.slice, Sem.run_bind, run_underlying hu, Result.andThen_ok, hb, run_sizeOf' hi, Sem.run_pure]
      split
      · rename_i hc
        simp
      · rename_i hc
        simp [add_addr]
    obtain ⟨oc', g1, g2⟩ := hrun
    refine RunOk.quiet r (by simp only [Sem.run_bind, g1, Result.andThen_ok, Sem.run_pure]) (.sl (oc := oc') (cap := cap - l.toNat) hs (by omega) ?_ ?_)
    · rw [g2]
      split
      · rename_i hc; simp [hc]; have := Nat.le_trans (Nat.le_add_right oc (cap * i.size)) hz; exact this
      · have : l.toNat * i.size + (cap - l.toNat) * i.size = cap * i.size := by rw [← Nat.add_mul]; congr 1; omega
        omega
    · intro hne
      rw [g2, if_neg (by omega), ho (by omega)]
      omega

theorem ok_slice_nil {P : Program} {σ : Names} {H : Heap} {w : World} (r : Rel σ H w) {t e : TypeId} {i : TypeInfo} (hu : P.underlying t = some (.slice e)) (hi : P.info? e = some i)
    {ee : Opd → Val} {ev : Operand → Value} (he : ∀ x y, opd x = some y → VRel σ (ee y) (ev x)) {lo hi' : Option Operand} {lo2 hi2 : Option Opd} (hlo : oopd lo = some lo2) (hhi : oopd hi' = some hi2)
    {ca : Value} (ha : VRel σ .nils ca) (hl : bnd ee 0 lo2 = some 0) (hh : bnd ee 0 hi2 = some 0) :
    RunOk P (do pure (.value (← Instr.sliceAt t ca (lo.map ev) (hi'.map ev) none))) σ H w .nils H := by
  cases ha
  have hb := fun (b : Bool) => bounds_run (P := P) (w := w) (isS := b) (len := 0) (cap := 0) he hlo hhi hl hh (Int.le_refl _) (Int.le_refl _) (Int.le_refl _) (Nat.le_refl _)
  refine RunOk.quiet r ?_ .nils
  simp only [Instr.sliceAt, Instr.slice, Sem.run_bind, run_underlying hu, Result.andThen_ok, hb, run_sizeOf' hi, Sem.run_pure]
  simp

theorem ok_slstr {P : Program} {σ : Names} {H : Heap} {w : World} (r : Rel σ H w) {t : TypeId} (hu : P.underlying t = some .string)
    {ee : Opd → Val} {ev : Operand → Value} (he : ∀ x y, opd x = some y → VRel σ (ee y) (ev x)) {lo hi' : Option Operand} {lo2 hi2 : Option Opd} (hlo : oopd lo = some lo2) (hhi : oopd hi' = some hi2)
    {s : ByteArray} {ca : Value} (ha : VRel σ (.s s) ca) {l h : Int} (hl : bnd ee 0 lo2 = some l) (hh : bnd ee s.size hi2 = some h) (h0 : 0 ≤ l) (h1 : l ≤ h) (h2 : h ≤ s.size) :
    RunOk P (do pure (.value (← Instr.sliceAt t ca (lo.map ev) (hi'.map ev) none))) σ H w (.s (s.extract l.toNat h.toNat)) H := by
  cases ha
  have hb := fun (b : Bool) => bounds_run (P := P) (w := w) (isS := b) (cap := s.size) he hlo hhi hl hh h0 h1 h2 (Nat.le_refl _)
  refine RunOk.quiet r ?_ (.s _)
  simp [Instr.sliceAt, Instr.slice, run_underlying hu, hb]

theorem window_cells {σ : Names} {H : Heap} {w : World} (r : Rel σ H w) {a : Val} {ca : Value} (ha : VRel σ a ca) {sz : Nat} {l : List Val} (h : window H a sz = some l) :
    l.length = a.slen * sz ∧ ∃ (base : Option Addr) (cap : Nat), ca = .slice base a.slen cap ∧ a.slen ≤ cap ∧ (base = none → a = .nils ∧ cap = 0) ∧
      ∃ cs : List Value, cs.length = a.slen * sz ∧ (∀ (j : Nat) (v : Val) (x : Value), l[j]? = some v → cs[j]? = some x → VRel σ v x) ∧ (∀ x ∈ cs, x.oneCell' = true) ∧
        ∀ ad, base = some ad → ∀ (j : Nat) (v : Value), cs[j]? = some v → w.cell? (ad.add j) = some v := by
  unfold window at h
  split at h
  · cases h
    cases ha
    exact ⟨by simp [Val.slen], none, 0, rfl, Nat.le_refl _, fun _ => ⟨rfl, rfl⟩, [], by simp [Val.slen], by simp, by simp, by simp⟩
  · rename_i z id off len sz'
    split at h
    · rename_i hsz
      subst hsz
      cases ha with
      | sl hs hle hz ho =>
        rename_i oc cap lc
        have fin : ∀ c, cellsOfObj (H[id]?.getD .dead) = some c → off + len * sz' ≤ c.length → (c.drop off).take (len * sz') = l →
            l.length = (Val.sl id off len sz').slen * sz' ∧ ∃ (base : Option Addr) (cap_1 : Nat), Value.slice (some ⟨lc.blk, oc, none⟩) len cap = .slice base (Val.sl id off len sz').slen cap_1 ∧ (Val.sl id off len sz').slen ≤ cap_1 ∧
              (base = none → Val.sl id off len sz' = .nils ∧ cap_1 = 0) ∧
              ∃ cs : List Value, cs.length = (Val.sl id off len sz').slen * sz' ∧ (∀ (j : Nat) (v : Val) (x : Value), l[j]? = some v → cs[j]? = some x → VRel σ v x) ∧ (∀ x ∈ cs, x.oneCell' = true) ∧
                ∀ ad, base = some ad → ∀ (j : Nat) (v : Value), cs[j]? = some v → w.cell? (ad.add j) = some v := by
          intro c h1 h2 h3
          have hid := r.dom id lc hs
          rw [List.getElem?_eq_getElem hid] at h1
          obtain ⟨_, k2⟩ := obj_cells r hs (List.getElem?_eq_getElem hid) h1
          obtain ⟨cs, g1, g2, g3, g4⟩ := window_rel k2 h2
          subst h3
          refine ⟨by simp [Val.slen]; omega, some _, cap, rfl, hle, by simp, cs, g1, g3, g4, ?_⟩
          rintro ad had j v hv
          cases had
          by_cases h0 : len = 0
          · subst h0
            simp [List.length_eq_zero_iff.1 (by simpa using g1)] at hv
          · rw [ho h0]; exact g2 j v hv
        split at h
        · rename_i c hc
          split at h
          · cases h
            exact fin c (by simp [hc, cellsOfObj]) (by assumption) rfl
          · cases h
        · rename_i c hc
          split at h
          · cases h
            exact fin c (by simp [hc, cellsOfObj]) (by assumption) rfl
          · cases h
        · cases h
    · cases h
  · cases h

theorem firstCells_run {P : Program} {w : World} {base : Option Addr} {n cap sz : Nat} {cs : List Value} (hl : cs.length = n * sz) (hb : base = none → cs = [])
    (hc : ∀ ad, base = some ad → ∀ (j : Nat) (v : Value), cs[j]? = some v → w.cell? (ad.add j) = some v) :
    (Builtin.firstCells sz n (.slice base n cap)).run P w = .ok cs.toArray w := by
  cases base with
  | none => simp [Builtin.firstCells, hb rfl]
  | some ad =>
    have := run_loadCells_list (P := P) w ad cs (hc ad rfl)
    rw [hl] at this
    simpa [Builtin.firstCells] using this

theorem zeroCells_size (z : Array Value) (n : Nat) : (Builtin.zeroCells z n).size = n * z.size := by simp [Builtin.zeroCells]
end Go.Proofs.YtmdilnelogechaaDoor.Ev
/- Append. -/
namespace Go.Proofs.YtmdilnelogechaaDoor.Ev
open Go

theorem slen_nils : Val.nils.slen = 0 := rfl
theorem slen_sl (id off n sz : Nat) : (Val.sl id off n sz).slen = n := rfl
structure AppTypes (P : Program) (st xt e : TypeId) (i : TypeInfo) (z : Value) : Prop where
  hu : P.underlying st = some (.slice e)
  hx : ∃ e', P.underlying xt = some (.slice e')
  hi : P.info? e = some i
  hz : i.zero = some z
  hsz : z.cells.size = i.size
  h0 : 0 < i.size
  h1 : 0 < i.bytes

theorem ok_app {P : Program} {σ : Names} {H : Heap} {w : World} (r : Rel σ H w) {st xt e ty : TypeId} {i : TypeInfo} {z : Value} (T : AppTypes P st xt e i z)
    {a b : Val} {ca cb : Value} (ha : VRel σ a ca) (hb : VRel σ b cb) {old new : List Val} (hw1 : window H a i.size = some old) (hw2 : window H b i.size = some new)
    (hbd : (a.slen + b.slen) * i.bytes ≤ 140737488355328) {v : Val} {H' : Heap}
    (hv : (a = .nils ∧ b.slen = 0 ∧ v = .nils ∧ H' = H) ∨ (a = .nils ∧ b.slen ≠ 0 ∧ v = .sl H.length 0 b.slen i.size ∧ H' = H ++ [.rw new]) ∨
      ∃ id off ln sz c, a = .sl id off ln sz ∧ H[id]? = some (.rw c) ∧ v = .sl H.length 0 (ln + b.slen) i.size ∧ H' = H.set id .dead ++ [.rw (old ++ new)]) :
    RunOk P (do pure (.value (← Builtin.append_ #[st, xt] ty #[ca, cb]))) σ H w v H' := by
  obtain ⟨hol, base, cap, rfl, hlc, hnil, cs, hcs1, hcs2, hcs4, hcs3⟩ := window_cells r ha hw1
  obtain ⟨hnl, base2, cap2, rfl, hlc2, hnil2, ds, hds1, hds2, hds4, hds3⟩ := window_cells r hb hw2
  obtain ⟨e', hx⟩ := T.hx
  have hbase2 : base2 = none → ds = [] := by
    intro h
    obtain ⟨h1, _⟩ := hnil2 h
    subst h1
    simp [slen_nils, slen_sl] at hds1; exact hds1
  have hbase : base = none → cs = [] := by
    intro h
    obtain ⟨h1, _⟩ := hnil h
    subst h1
    simp [slen_nils, slen_sl] at hcs1; exact hcs1
  have hnew : ∀ w1 : World, w1.heap = w.heap → (Builtin.firstCells i.size b.slen (.slice base2 b.slen cap2)).run P w1 = .ok ds.toArray w1 := by
    intro w1 hh
    refine firstCells_run hds1 hbase2 fun ad had j v hj => ?_
    have := hds3 ad had j v hj
    simpa only [World.cell?, hh] using this
  have hold : ∀ w1 : World, w1.heap = w.heap → (Builtin.firstCells i.size a.slen (.slice base a.slen cap)).run P w1 = .ok cs.toArray w1 := by
    intro w1 hh
    refine firstCells_run hcs1 hbase fun ad had j v hj => ?_
    have := hcs3 ad had j v hj
    simpa only [World.cell?, hh] using this
  have hneed : a.slen + b.slen ≤ 140737488355328 := Nat.le_trans (Nat.le_mul_of_pos_right _ T.h1) hbd
  by_cases hfit : a.slen + b.slen ≤ cap
  · have hrun : ∀ w', (match base with
        | some ad => storeCells (ad.add (a.slen * i.size)) ds
        | none => pure () : Sem Unit).run P w = .ok () w' →
        (Builtin.append_ #[st, xt] ty #[.slice base a.slen cap, .slice base2 b.slen cap2]).run P w = .ok (.slice base (a.slen + b.slen) cap) w' := by
      intro w' hst
      have hn := hnew w rfl
      cases base with
      | none =>
        simp at hst; subst hst
        simp [Builtin.append_, T.hu, run_underlying T.hu, run_sizeOf' T.hi, run_underlying hx, Builtin.lenOf, hfit, hn]
      | some ad =>
        simp at hst
        simp [Builtin.append_, T.hu, run_underlying T.hu, run_sizeOf' T.hi, run_underlying hx, Builtin.lenOf, hfit, hn, hst]
    rcases hv with ⟨h1, h2, h3, h4⟩ | ⟨h1, h2, h3, h4⟩ | ⟨id, off, ln, sz, c, h1, h2, h3, h4⟩
    · subst h1; subst h3; subst h4
      obtain ⟨hb0, hc0⟩ : base = none ∧ cap = 0 := by cases ha; exact ⟨rfl, rfl⟩
      subst hb0; subst hc0
      refine RunOk.quiet (c := .slice none 0 0) r ?_ .nils
      have := hrun w (by simp)
      simp only [slen_nils, h2, Nat.add_zero] at this
      simp only [slen_nils, slen_sl, h2, Sem.run_bind, this, Result.andThen_ok, Sem.run_pure]
    · subst h1
      obtain ⟨hb0, hc0⟩ : base = none ∧ cap = 0 := by cases ha; exact ⟨rfl, rfl⟩
      subst hc0
      simp [slen_nils, slen_sl] at hfit
      exact absurd hfit h2
    · subst h1; subst h3; subst h4
      have hsz' : sz = i.size := by
        simp only [window] at hw1
        split at hw1
        · assumption
        · cases hw1
      subst hsz'
      obtain ⟨lc, oc, hs, hbase', hz, ho⟩ : ∃ (lc : Loc) (oc : Nat), σ id = some lc ∧ base = some ⟨lc.blk, oc, none⟩ ∧ oc + cap * i.size ≤ lc.size ∧ (ln ≠ 0 → oc = lc.base + off) := by
        cases ha with
        | sl hs hle hz ho => exact ⟨_, _, hs, rfl, hz, ho⟩
      subst hbase'
      have hobj := r.obj id lc _ hs h2
      simp only [slen_nils, slen_sl] at hfit hcs1 hol hlc hcs3
      have hmul : ln * i.size + b.slen * i.size ≤ cap * i.size := by rw [← Nat.add_mul]; exact Nat.mul_le_mul_right _ hfit
      have hst := run_storeCells_cells (P := P) lc.blk (oc + ln * i.size) ds 0 w
        (fun j hj => by obtain ⟨⟨y, h1⟩, _⟩ := hobj.2 (oc + ln * i.size + 0 + j) (by omega); rw [h1]; rfl)
        (fun j hj => (hobj.2 (oc + ln * i.size + 0 + j) (by omega)).2) hds4
      have hr := hrun (w.setCells lc.blk (oc + ln * i.size) ds) (by simp only [slen_nils, slen_sl, add_addr]; simpa using hst)
      simp only [slen_sl] at hr
      have hcell : ∀ o, o < lc.size → (∃ x, (w.setCells lc.blk (oc + ln * i.size) ds).cell? ⟨lc.blk, o, none⟩ = some x) ∧ (w.setCells lc.blk (oc + ln * i.size) ds).frozen? ⟨lc.blk, o, none⟩ = false := by
        intro o ho'
        refine ⟨?_, by rw [frozen_setCells]; exact (hobj.2 o ho').2⟩
        by_cases hin : oc + ln * i.size ≤ o ∧ o < oc + ln * i.size + ds.length
        · obtain ⟨j, rfl⟩ : ∃ j, o = oc + ln * i.size + j := ⟨o - (oc + ln * i.size), by omega⟩
          have hjl : j < ds.length := by omega
          exact ⟨ds[j], cell_setCells_in _ _ _ _ _ _ (List.getElem?_eq_getElem hjl) (fun k hk => (hobj.2 _ (by omega)).1)⟩
        · rw [cell_setCells_out _ _ _ _ (by omega)]
          exact (hobj.2 o ho').1
      obtain ⟨r1, s1⟩ := r.reuse (w' := w.setCells lc.blk (oc + ln * i.size) ds) (l := old ++ new) (oc := oc) hs h2 (rest_setCells _ _ _ _) (heap_setCells_size _ _ _ _) (fun bl hbl => heap_setCells_other _ hbl _ _ _) hcell
        (by simp; omega) (fun j v hj => by
          by_cases hjo : j < old.length
          · rw [List.getElem?_append_left hjo] at hj
            have hjc : j < cs.length := by omega
            have hln : ln ≠ 0 := by rintro rfl; simp at hcs1; simp [hcs1] at hjc
            have hx := List.getElem?_eq_getElem hjc
            refine ⟨cs[j], ?_, hcs2 j v _ hj hx, hcs4 _ (List.getElem_mem hjc)⟩
            rw [cell_setCells_out _ _ _ _ (by omega)]
            have := hcs3 _ rfl j _ hx
            rwa [add_addr] at this
          · rw [List.getElem?_append_right (by omega)] at hj
            have hjd : j - old.length < ds.length := by
              have : j - old.length < new.length := by
                rcases Nat.lt_or_ge (j - old.length) new.length with h | h
                · exact h
                · rw [List.getElem?_eq_none h] at hj; cases hj
              omega
            have hx := List.getElem?_eq_getElem hjd
            refine ⟨ds[j - old.length], ?_, hds2 _ v _ hj hx, hds4 _ (List.getElem_mem hjd)⟩
            have := cell_setCells_in lc.blk ds (oc + ln * i.size) w (j - old.length) _ hx (fun k hk => (hobj.2 _ (by omega)).1)
            rwa [show oc + ln * i.size + (j - old.length) = oc + j by omega] at this)
      refine ⟨_, .slice (some ⟨lc.blk, oc, none⟩) (ln + b.slen) cap, _, _, by simp only [Sem.run_bind, slen_sl, hr, Result.andThen_ok, Sem.run_pure], .inl rfl, ?_, r1, s1⟩
      refine .sl (l := ⟨lc.blk, oc, lc.size⟩) (oc := oc) (cap := cap) (Names.add_same _ _ _) hfit hz (fun _ => by simp)
  · have hq : (Question.appendCap (a.slen + b.slen) cap e).forced = false := rfl
    have hfits := growslice_fits (need := a.slen + b.slen) (old := cap) (bytes := i.bytes) (by omega) hbd
    obtain ⟨newCap, hnc, hcut⟩ : ∃ newCap, a.slen + b.slen ≤ newCap ∧ (Question.appendCap (a.slen + b.slen) cap e).cut (w.tape w.drawn (.appendCap (a.slen + b.slen) cap e)) = newCap :=
      ⟨_, Nat.le_add_right _ _, rfl⟩
    let row : Array Value := cs.toArray ++ (ds.toArray ++ Builtin.zeroCells z.cells (newCap - (a.slen + b.slen)))
    have hrun : (Builtin.append_ #[st, xt] ty #[.slice base a.slen cap, .slice base2 b.slen cap2]).run P w =
        .ok (.slice (some ⟨w.heap.size, 0, none⟩) (a.slen + b.slen) newCap) (w.drew.alloc (.cells row e (0, 0))) := by
      have hn := hnew w.drew rfl
      have ho := hold w.drew rfl
      simp [Builtin.append_, run_underlying T.hu, run_sizeOf' T.hi, run_underlying hx, Builtin.lenOf, hfit, run_typeInfo' T.hi, hq, hcut]
      rw [if_neg (by have := T.h1; omega), if_neg (by omega)]
      simp [ho, hn, hcut, run_zeroValue' T.hi T.hz, newRow, row]
    have hrow : row.size = newCap * i.size := by
      have e1 : row.size = cs.length + ds.length + (newCap - (a.slen + b.slen)) * i.size := by simp [row, zeroCells_size, T.hsz]; omega
      rw [e1, hcs1, hds1, ← Nat.add_mul, ← Nat.add_mul]
      congr 1; omega
    have hrel : ∀ (j : Nat) (v : Val) (x : Value), (old ++ new)[j]? = some v → row[j]? = some x → VRel σ v x ∧ x.oneCell' = true := by
      intro j v x hj hx
      have hcl : cs.length = old.length := by omega
      have hdl : ds.length = new.length := by omega
      by_cases hjo : j < old.length
      · rw [List.getElem?_append_left hjo] at hj
        have : row[j]? = cs[j]? := by
          simp only [row]
          rw [Array.getElem?_append_left (by simp; omega)]
          simp
        rw [this] at hx
        exact ⟨hcs2 j v x hj hx, hcs4 x (List.mem_of_getElem? hx)⟩
      · rw [List.getElem?_append_right (by omega)] at hj
        have hjn : j - old.length < new.length := by
          rcases Nat.lt_or_ge (j - old.length) new.length with h | h
          · exact h
          · rw [List.getElem?_eq_none h] at hj; cases hj
        have : row[j]? = ds[j - old.length]? := by
          simp only [row]
          rw [Array.getElem?_append_right (by simp; omega), Array.getElem?_append_left (by simp; omega)]
          simp [hcl]
        rw [this] at hx
        exact ⟨hds2 _ v x hj hx, hds4 x (List.mem_of_getElem? hx)⟩
    have hlen : (old ++ new).length ≤ row.size := by
      rw [hrow]
      simp only [List.length_append, hol, hnl, ← Nat.add_mul]
      exact Nat.mul_le_mul_right _ hnc
    obtain ⟨r1, s1⟩ := (show Rel σ H w.drew from r.drawn (w.drawn + 1)).alloc (l := old ++ new) (cs := row) (e := e) (w' := w.drew.alloc (.cells row e (0, 0))) hlen
      (fun j v x hj hx => (hrel j v x hj hx).1) (fun j x hj hx => (hrel j _ x (List.getElem?_eq_getElem hj) hx).2) rfl ⟨rfl, rfl, rfl⟩
    have s0 : Step σ H w σ H w.drew :=
      { ext := fun _ _ => rfl, len := Nat.le_refl _, size := Nat.le_refl _, keep := fun _ _ _ => rfl, fresh := fun id l hs hl => .inr ⟨id, l, hs, hl, rfl⟩, live := fun _ _ h => h, rest := ⟨rfl, rfl, rfl⟩, ro := fun id l hs hl => ⟨id, l, hs, hl, rfl⟩ }
    have hval : VRel (σ.add H.length ⟨w.heap.size, 0, row.size⟩) (.sl H.length 0 (a.slen + b.slen) i.size) (.slice (some ⟨w.heap.size, 0, none⟩) (a.slen + b.slen) newCap) :=
      .sl (l := ⟨w.heap.size, 0, row.size⟩) (oc := 0) (cap := newCap) (Names.add_same _ _ _) hnc (by simp [hrow]) (fun _ => rfl)
    rcases hv with ⟨h1, h2, h3, h4⟩ | ⟨h1, h2, h3, h4⟩ | ⟨id, off, ln, sz, c, h1, h2, h3, h4⟩
    · subst h1
      exact absurd (by simp [slen_nils, slen_sl, h2]) hfit
    · subst h1; subst h3; subst h4
      have hold0 : old = [] := by cases hw1; rfl
      subst hold0
      simp only [slen_nils, slen_sl, Nat.zero_add, List.nil_append] at hval r1 s1 hrun ⊢
      exact ⟨_, _, _, _, by simp only [Sem.run_bind, hrun, Result.andThen_ok, Sem.run_pure], .inl rfl, hval, r1, s0.trans s1⟩
    · subst h1; subst h3; subst h4
      have hid : id < H.length := by
        rcases Nat.lt_or_ge id H.length with h | h
        · exact h
        · rw [List.getElem?_eq_none h] at h2; cases h2
      obtain ⟨r2, s2⟩ := r1.kill id
      have e2 : (H ++ [AObj.rw (old ++ new)]).set id .dead = H.set id .dead ++ [AObj.rw (old ++ new)] := List.set_append_left _ _ hid
      rw [e2] at r2 s2
      simp only [slen_nils, slen_sl] at hval hrun ⊢
      exact ⟨_, _, _, _, by simp only [Sem.run_bind, hrun, Result.andThen_ok, Sem.run_pure], .inl rfl, hval, r2, (s0.trans s1).trans s2⟩
end Go.Proofs.YtmdilnelogechaaDoor.Ev
