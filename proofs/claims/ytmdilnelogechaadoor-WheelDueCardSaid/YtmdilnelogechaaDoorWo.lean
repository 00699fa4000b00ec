/- This text of a proof shows: a wheel beside other objects that are kept; what was put, what came and what waits. -/
import Derived.Test.YtmdilnelogechaaDoorGg
import Derived.Test.YtmdilnelogechaaDoorWk
set_option linter.unusedVariables false
set_option linter.unusedSimpArgs false
set_option linter.constructorNameAsVariable false
namespace Go.Proofs.YtmdilnelogechaaDoor.IR
open Go Go.Proofs.YtmdilnelogechaaDoor.Ev Go.Proofs.YtmdilnelogechaaDoor.Ev.Rb Go.Proofs.YtmdilnelogechaaDoor.Ev.Wh Go.Proofs.YtmdilnelogechaaDoor.Ext Go.Proofs.YtmdilnelogechaaDoorW.PrintWords
def LK (A R : Heap) (wid : Nat) (s : Ws) (K : Jl) : Prop := ∃ (ids : List Nat) (W : Heap), At (A ++ R) ids W ∧ (∀ i ∈ ids, A.length ≤ i) ∧ nm ids 0 = wid ∧ WH s [] W ∧ ∀ x ∈ K, A.length + x.1 ∉ ids ∧ R[x.1]? = some x.2
theorem LK.of {A R : Heap} {wid : Nat} {s : Ws} (h : LW A R wid s []) : LK A R wid s [] := by
  obtain ⟨ids, W, h1, h2, h3, h4⟩ := h
  exact ⟨ids, W, h1, h2, h3, h4, by simp⟩
theorem LK.ok {A R : Heap} {wid : Nat} {s : Ws} {K : Jl} (h : LK A R wid s K) : WOk s := by
  obtain ⟨ids, W, h1, h2, h3, h4, h5⟩ := h
  exact h4.ok
theorem LK.get {A R : Heap} {wid : Nat} {s : Ws} {K : Jl} (h : LK A R wid s K) (x : Nat × AObj) (hx : x ∈ K) : R[x.1]? = some x.2 := by
  obtain ⟨ids, W, h1, h2, h3, h4, h5⟩ := h
  exact (h5 x hx).2
theorem LK.less {A R : Heap} {wid : Nat} {s : Ws} {K K' : Jl} (h : LK A R wid s K) (hK : ∀ x ∈ K', x ∈ K) : LK A R wid s K' := by
  obtain ⟨ids, W, h1, h2, h3, h4, h5⟩ := h
  exact ⟨ids, W, h1, h2, h3, h4, fun x hx => h5 x (hK x hx)⟩
theorem LK.push {A R : Heap} {wid : Nat} {s : Ws} {K : Jl} (h : LK A R wid s K) (R' : Heap) : LK A (R ++ R') wid s K := by
  obtain ⟨ids, W, h1, h2, h3, h4, h5⟩ := h
  refine ⟨ids, W, by rw [← List.append_assoc]; exact h1.push R', h2, h3, h4, fun x hx => ⟨(h5 x hx).1, ?_⟩⟩
  rw [List.getElem?_append_left (List.getElem?_eq_some_iff.1 (h5 x hx).2).1]
  exact (h5 x hx).2
theorem LK.pushK {A R : Heap} {wid : Nat} {s : Ws} {K : Jl} (h : LK A R wid s K) (o : AObj) : LK A (R ++ [o]) wid s ((R.length, o) :: K) := by
  obtain ⟨ids, W, h1, h2, h3, h4, h5⟩ := h
  refine ⟨ids, W, by rw [← List.append_assoc]; exact h1.push _, h2, h3, h4, fun x hx => ?_⟩
  rcases List.mem_cons.1 hx with rfl | hx
  · refine ⟨fun hi => ?_, by simp⟩
    have := h1.lt hi
    simp at this
  · refine ⟨(h5 x hx).1, ?_⟩
    rw [List.getElem?_append_left (List.getElem?_eq_some_iff.1 (h5 x hx).2).1]
    exact (h5 x hx).2
theorem LK.set {A R : Heap} {wid : Nat} {s : Ws} {K : Jl} {j : Nat} {o : AObj} (h : LK A R wid s ((j, o) :: K)) (hj : ∀ x ∈ K, x.1 ≠ j) (o' : AObj) : LK A (R.set j o') wid s ((j, o') :: K) := by
  obtain ⟨ids, W, h1, h2, h3, h4, h5⟩ := h
  obtain ⟨g1, g2⟩ := h5 (j, o) (by simp)
  have hlt := (List.getElem?_eq_some_iff.1 g2).1
  refine ⟨ids, W, h1.congr fun i hi => ?_, h2, h3, h4, fun x hx => ?_⟩
  · have hne : i ≠ A.length + j := by rintro rfl; exact g1 hi
    have hge := h2 i hi
    rw [List.getElem?_append_right hge, List.getElem?_append_right hge, List.getElem?_set_ne (by omega)]
  · rcases List.mem_cons.1 hx with rfl | hx
    · exact ⟨g1, by simp only [List.getElem?_set_self hlt]⟩
    · refine ⟨(h5 x (by simp [hx])).1, ?_⟩
      rw [List.getElem?_set_ne (fun e => hj x hx e.symm)]
      exact (h5 x (by simp [hx])).2
/-- An append to one of two objects: its own old one is dead, the new one stands behind all others. -/
theorem LK.app {A R : Heap} {wid : Nat} {s : Ws} {j1 j2 : Nat} {o1 o2 : AObj} (h : LK A R wid s [(j1, o1), (j2, o2)]) (hj : j1 ≠ j2) (o' : AObj) : LK A (R.set j1 .dead ++ [o']) wid s [(j2, o2), (R.length, o')] ∧ j2 < R.length := by
  have h2 := (h.set (fun x hx => by simp only [List.mem_singleton] at hx; subst hx; exact hj.symm) .dead).pushK o'
  rw [List.length_set] at h2
  refine ⟨h2.less fun x hx => ?_, (List.getElem?_eq_some_iff.1 (h.get (j2, o2) (by simp))).1⟩
  simp only [List.mem_cons, List.not_mem_nil, or_false] at hx ⊢
  rcases hx with rfl | rfl <;> simp
theorem LK.call {P : Program} {A R : Heap} {wid : Nat} {s : Ws} {K : Jl} {f : FuncId} {xs : List Val} {Q : Val → Heap → Prop} (h : LK A R wid s K) (c : ∀ W, WH s [] W → SoundCall P f (.p 0 0 :: xs) W Q) (hx : wfL 0 xs = true) (hQ : ∀ v W', Q v W' → ∃ s' J', WH s' J' W') :
    SoundCall P f (.p wid 0 :: xs) (A ++ R) (fun v H' => ∃ (R' : Heap) (v0 : Val) (W' : Heap) (ι : Nat → Nat), H' = A ++ R' ∧ Q v0 W' ∧ v = v0.ren ι ∧ ∀ s', WH s' [] W' → LK A R' wid s' K) := by
  obtain ⟨ids, W, hat, hge, hw, hW, hK⟩ := h
  have h7 := hW.len
  have hxr : renL (nm ids) xs = xs := by
    have e := renL_same (f := nm ids) (g := id) (n := 0) (fun x hx => by omega) xs hx
    rw [e, renL_id]
  have hcall := At.call (SoundM.long (c W hW)) hat (vs := .p 0 0 :: xs) (ws := .p wid 0 :: xs) (by
    simp only [wfL, Val.wf, Bool.and_eq_true, decide_eq_true_eq]
    exact ⟨by omega, wfL_mono (Nat.zero_le _) xs hx⟩) (by simp only [renL, Val.ren, hw, hxr])
  refine hcall.mono ?_
  rintro v H' ⟨v0, W', ⟨hq, hlong⟩, rfl, hleft⟩
  obtain ⟨R', rfl⟩ := hleft.front hge
  obtain ⟨s0, J0, hW0⟩ := hQ v0 W' hq
  have hat' := hleft.at_ hW0.wf hlong
  have htk : ids.take W.length = ids := List.take_of_length_le (by rw [hat.len]; exact Nat.le_refl _)
  have hge' := Left.ge (k := W.length) (H' := []) (C' := W') hge (show A.length ≤ (A ++ R).length by simp)
  refine ⟨R', v0, W', _, rfl, hq, rfl, fun s' hW' => ⟨_, W', hat', hge', ?_, hW', fun x hx => ?_⟩⟩
  · rw [htk]
    have : 0 < ids.length := by rw [hat.len]; omega
    rw [← hw]
    simp only [nm, List.getD_eq_getElem?_getD]
    rw [List.getElem?_append_left this]
  · obtain ⟨g1, g2⟩ := hK x hx
    have hlt := (List.getElem?_eq_some_iff.1 g2).1
    have hl2 : A.length + x.1 < (A ++ R).length := by simp; omega
    constructor
    · rw [htk]
      intro hi
      rcases List.mem_append.1 hi with hi | hi
      · exact g1 hi
      · have := List.mem_range'_1.1 hi
        omega
    · have h1 := hleft.keep _ hl2 g1
      rw [List.getElem?_append_right (by omega), List.getElem?_append_right (by omega), Nat.add_sub_cancel_left] at h1
      rw [h1]; exact g2
/-- What the laws keep of each that was put. -/
def Thj (qs : List Nat) (cm : List Bool) (w : Nat) (x : Th) : Prop := ∃ j a, qs[j]? = some a ∧ cm[j]? = some false ∧ x = (((slotN a w : Nat) : Int), ((j : Nat) : Int), ((j : Nat) : Int))
structure DI (s : Ws) (T : Tl) (d : List Th) (qs : List Nat) (cm : List Bool) (w now : Nat) : Prop where
  wt : WT s T
  up : ∀ y ∈ T, (y.2 : Int) ≤ max y.1.1 (s.c : Nat)
  st : s.w = w ∧ s.room = 200 ∧ s.c = now / w ∧ s.put = qs.length ∧ s.wt ≤ qs.length
  due : s.due = vs d
  sorted : Sorted d
  len : cm.length = qs.length
  mem : ∀ x, (x ∈ d ∨ x ∈ T.map (·.1)) ↔ Thj qs cm w x
  done : ∀ x ∈ d, x.1 ≤ (s.c : Nat)
theorem DI.init {S w : Nat} (hS : 2 ≤ S) : DI (Wd.init S w 200) [] [] [] [] w 0 := by
  refine ⟨WT.init hS, by simp, ⟨rfl, rfl, by simp [Wd.init], rfl, Nat.le_refl _⟩, rfl, .nil, rfl, fun x => ?_, by simp⟩
  constructor
  · rintro (h | h) <;> simp at h
  · rintro ⟨j, a, h, _⟩; simp at h
theorem snoc_get {α : Type} {l : List α} {x y : α} {j : Nat} (h : (l ++ [x])[j]? = some y) : l[j]? = some y ∨ (j = l.length ∧ x = y) := by
  rcases Nat.lt_trichotomy j l.length with g | g | g
  · rw [List.getElem?_append_left g] at h; exact .inl h
  · subst g; simp at h; exact .inr ⟨rfl, h⟩
  · rw [List.getElem?_eq_none (by simp; omega)] at h; cases h
theorem get_snoc {α : Type} {l : List α} {x y : α} {j : Nat} (h : l[j]? = some y) : (l ++ [x])[j]? = some y := by
  rw [List.getElem?_append_left (List.getElem?_eq_some_iff.1 h).1]; exact h
theorem DI.put {s : Ws} {T : Tl} {qs : List Nat} {cm : List Bool} {w now : Nat} (h : DI s T [] qs cm w now) (hk : WOk s) {t : Nat} (ht : t ≤ 18446744073709551615) (hn : qs.length < 200) :
    DI (put1 s (qs.length : Nat) t) (T ++ tlP s (qs.length : Nat) t) [] (qs ++ [t]) (cm ++ [false]) w now := by
  obtain ⟨g1, g2, g3, g4, g5⟩ := h.st
  have hd := h.due
  refine ⟨h.wt.put hk ht (by rw [hd, g2]; simp [vs]; omega), fun y hy => ?_, ⟨g1, g2, g3, ?_, ?_⟩, hd, .nil, by simp [h.len], fun x => ?_, by simp⟩
  · rcases List.mem_append.1 hy with hy | hy
    · exact h.up y hy
    · simp only [tlP, List.mem_singleton] at hy
      subst hy
      exact stC_up _ _ _ (by show (0 : Int) ≤ (slotN t s.w : Nat); omega)
  · show s.put + 1 = _; simp; exact g4
  · show s.wt + 1 ≤ _; simp; exact g5
  · have hmem := h.mem x
    have hlen := h.len
    rw [List.map_append, List.mem_append]
    constructor
    · rintro (h | h | h)
      · cases h
      · obtain ⟨j, a, h1, h2, h3⟩ := hmem.1 (.inr h)
        exact ⟨j, a, get_snoc h1, get_snoc h2, h3⟩
      · simp only [tlP, List.map_cons, List.map_nil, List.mem_singleton] at h
        refine ⟨qs.length, t, by simp, by rw [← hlen]; simp, ?_⟩
        rw [h]
        simp only [newT, g1, g4]
    · rintro ⟨j, a, h1, h2, h3⟩
      right
      rcases snoc_get h1 with h1 | ⟨rfl, rfl⟩
      · left
        rcases snoc_get h2 with h2 | ⟨rfl, _⟩
        · rcases hmem.2 ⟨j, a, h1, h2, h3⟩ with h | h
          · cases h
          · exact h
        · rw [h.len, List.getElem?_eq_none (Nat.le_refl _)] at h1; cases h1
      · right
        simp only [tlP, List.map_cons, List.map_nil, List.mem_singleton, newT, g1, g4]
        exact h3
theorem DI.adv {s : Ws} {T : Tl} {qs : List Nat} {cm : List Bool} {w now : Nat} (h : DI s T [] qs cm w now) (t : Nat) {l : List Th} {s' : Ws} (hp : l.Perm ((T.filter fun y => y.2 ≤ max s.c (t / s.w)).map (·.1))) (hso : Sorted l) (hA : AdvP s T (max s.c (t / s.w)) l s') :
    DI s' ((T.filter fun y => max s.c (t / s.w) < y.2) ++ again s.S (max s.c (t / s.w)) (farL (max s.c (t / s.w)) l)) (dueL (max s.c (t / s.w)) l) qs cm w (max now t) ∧
    ∀ y ∈ (T.filter fun y => max s.c (t / s.w) < y.2) ++ again s.S (max s.c (t / s.w)) (farL (max s.c (t / s.w)) l), ((max now t / w : Nat) : Int) < y.1.1 := by
  obtain ⟨g1, g2, g3, g4, g5⟩ := h.st
  obtain ⟨f1, f2, f3, f4, f5⟩ := hA.same
  have f6 := hA.wt
  have hps : PS s T [] (T.map (·.1)) := ⟨h.wt, h.up, h.due, .nil, .refl _, by simp, by simp⟩
  obtain ⟨hP, hl⟩ := hps.adv (Nat.le_max_left _ _) hp hso hA
  have hc : max s.c (t / s.w) = max now t / w := by
    rw [g3, g1]
    rcases Nat.le_total now t with h | h
    · rw [Nat.max_eq_right h, Nat.max_eq_right (Nat.div_le_div_right h)]
    · rw [Nat.max_eq_left h, Nat.max_eq_left (Nat.div_le_div_right h)]
  refine ⟨⟨hP.wt, hP.up, ⟨by omega, by omega, by omega, by omega, by omega⟩, hP.due, hP.sorted, h.len, fun x => ?_, hP.done⟩, fun y hy => ?_⟩
  · rw [← h.mem x]
    have := hP.perm.mem_iff (a := x)
    rw [List.nil_append, List.mem_append] at this
    simp only [List.not_mem_nil, false_or]
    exact this
  · have := hl y hy
    rw [hc] at this; exact this
/-- Those that came are marked. -/
def Mk (d : List Th) (cm cm' : List Bool) : Prop := ∀ j : Nat, cm'[j]? = (cm[j]?).map fun b => b || d.any fun x => x.2.2 == (j : Nat)
theorem Mk.nil (cm : List Bool) : Mk [] cm cm := fun j => by simp
theorem Mk.len {d : List Th} {cm cm' : List Bool} (h : Mk d cm cm') : cm'.length = cm.length := by
  have key : ∀ j, j < cm'.length ↔ j < cm.length := fun j => by
    have := h j
    constructor
    · intro hj
      rw [List.getElem?_eq_getElem hj] at this
      rcases Nat.lt_or_ge j cm.length with g | g
      · exact g
      · rw [List.getElem?_eq_none g] at this; cases this
    · intro hj
      rw [List.getElem?_eq_getElem hj] at this
      rcases Nat.lt_or_ge j cm'.length with g | g
      · exact g
      · rw [List.getElem?_eq_none g] at this; cases this
  have h1 := key cm.length
  have h2 := key cm'.length
  omega
theorem Mk.step {d : List Th} {cm cm' : List Bool} (h : Mk d cm cm') {x : Th} {j : Nat} (hx : x.2.2 = (j : Nat)) : Mk (d ++ [x]) cm (cm'.set j true) := fun i => by
  rw [List.getElem?_set, List.any_append]
  have := h i
  by_cases e : j = i
  · subst e
    rw [if_pos rfl]
    by_cases hj : j < cm'.length
    · rw [if_pos hj, List.getElem?_eq_getElem (by rw [← h.len]; exact hj)]
      simp [hx]
    · rw [if_neg hj, List.getElem?_eq_none (by rw [← h.len]; omega)]; rfl
  · rw [if_neg e, this]
    have : (x.2.2 == (i : Int)) = false := by rw [hx]; simp; omega
    simp [this]
theorem DI.nodup {s : Ws} {T : Tl} {d : List Th} {qs : List Nat} {cm : List Bool} {w now : Nat} (h : DI s T d qs cm w now) {q : Nat} {x : Th} (hx : d[q]? = some x) : ∀ y ∈ d.take q, y.2.2 ≠ x.2.2 := fun y hy e => by
  have hxm := List.mem_of_getElem? hx
  have hym := List.take_subset _ _ hy
  obtain ⟨j, a, h1, _, rfl⟩ := (h.mem x).1 (.inl hxm)
  obtain ⟨j', a', h1', _, rfl⟩ := (h.mem y).1 (.inl hym)
  simp only [Int.natCast_inj] at e
  subst e
  rw [h1] at h1'
  obtain rfl : a = a' := by simpa using h1'
  obtain ⟨hq, e⟩ := List.getElem?_eq_some_iff.1 hx
  have hd : d = d.take q ++ d[q] :: d.drop (q + 1) := by rw [← List.drop_eq_getElem_cons hq, List.take_append_drop]
  have hs := h.sorted
  unfold Sorted at hs
  rw [hd] at hs
  have := (List.pairwise_append.1 hs).2.2 _ hy d[q] (by exact List.mem_cons_self)
  rw [e] at this
  exact klt_irrefl _ this
/-- Behind all the takes: none is due, and those that wait are those that did not come. -/
theorem DI.take {s : Ws} {T : Tl} {d : List Th} {qs : List Nat} {cm cm' : List Bool} {w now : Nat} (h : DI s T d qs cm w now) (hl : ∀ y ∈ T, ((now / w : Nat) : Int) < y.1.1) (hm : Mk d cm cm') : DI { s with due := [] } T [] qs cm' w now := by
  obtain ⟨g1, g2, g3, g4, g5⟩ := h.st
  refine ⟨h.wt.less (by simp), h.up, ⟨g1, g2, g3, g4, g5⟩, rfl, .nil, by rw [hm.len, h.len], fun x => ?_, by simp⟩
  simp only [List.not_mem_nil, false_or]
  constructor
  · intro hx
    obtain ⟨j, a, h1, h2, rfl⟩ := (h.mem x).1 (.inr hx)
    refine ⟨j, a, h1, ?_, rfl⟩
    have := hm j
    rw [h2] at this
    rw [this]
    have hn : (d.any fun x => x.2.2 == ((j : Nat) : Int)) = false := by
      rw [List.any_eq_false]
      intro y hy e
      obtain ⟨j', a', h1', _, rfl⟩ := (h.mem y).1 (.inl hy)
      simp only [beq_iff_eq, Int.natCast_inj] at e
      subst e
      rw [h1] at h1'
      obtain rfl : a = a' := by simpa using h1'
      obtain ⟨z, hz, e⟩ := List.mem_map.1 hx
      have h3 := hl z hz
      have h4 := h.done _ hy
      rw [e] at h3
      simp only at h3 h4
      rw [g3] at h4
      omega
    rw [hn]; rfl
  · rintro ⟨j, a, h1, h2, rfl⟩
    have := hm j
    rw [h2] at this
    obtain ⟨b, hb⟩ : ∃ b, cm[j]? = some b := ⟨cm[j]'(by have := (List.getElem?_eq_some_iff.1 h1).1; rw [h.len]; exact this), List.getElem?_eq_getElem _⟩
    rw [hb] at this
    simp only [Option.map_some, Option.some.injEq] at this
    have h3 := (Bool.or_eq_false_iff.1 this.symm)
    rcases (h.mem _).2 ⟨j, a, h1, by rw [hb, h3.1], rfl⟩ with hx | hx
    · have := List.any_eq_false.1 h3.2 _ hx
      simp at this
    · exact hx
end Go.Proofs.YtmdilnelogechaaDoor.IR
