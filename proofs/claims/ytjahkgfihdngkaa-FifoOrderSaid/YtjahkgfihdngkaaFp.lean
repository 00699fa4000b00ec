/- This text of a proof shows: a row and a tree's entries together are one row by rising keys, in plain numbers. -/
import Derived.Test.YtjahkgfihdngkaaRb7
import Derived.Test.YtjahkgfihdngkaaEvF
set_option linter.unusedVariables false
set_option linter.unusedSimpArgs false
set_option linter.constructorNameAsVariable false
namespace Go.Proofs.Ytjahkgfihdngkaa.Ev.Rb
open Go Go.Proofs.Ytjahkgfihdngkaa.Ev
theorem ins_perm (x : Int × Int × Int) : ∀ l, (ins x l).Perm (x :: l)
  | [] => .refl _
  | y :: l => by
    simp only [ins]
    split
    · exact .refl _
    · exact ((ins_perm x l).cons y).trans (.swap ..)
theorem ins_mem {x y : Int × Int × Int} {l : List (Int × Int × Int)} : y ∈ ins x l ↔ y = x ∨ y ∈ l := by rw [(ins_perm x l).mem_iff]; simp
theorem ins_sorted {x : Int × Int × Int} : ∀ {l : List (Int × Int × Int)}, Sorted l → (∀ y ∈ l, ekey y ≠ ekey x) → Sorted (ins x l)
  | [], _, _ => by simp [ins, Sorted]
  | y :: l, h, hn => by
    simp only [Sorted, List.pairwise_cons] at h
    simp only [ins]
    split
    · rename_i hk
      simp only [Sorted, List.pairwise_cons]
      refine ⟨fun z hz => ?_, h⟩
      rcases List.mem_cons.1 hz with rfl | hz
      · exact hk
      · exact klt_trans hk (h.1 z hz)
    · rename_i hk
      have : klt (ekey y) (ekey x) := by
        by_cases c : klt (ekey y) (ekey x)
        · exact c
        · exact absurd (klt_eq c hk) (hn y (by simp))
      simp only [Sorted, List.pairwise_cons]
      refine ⟨fun z hz => ?_, ins_sorted h.2 fun z hz => hn z (by simp [hz])⟩
      rcases ins_mem.1 hz with rfl | hz
      · exact this
      · exact h.1 z hz
theorem head_min {m x : Int × Int × Int} {M R : List (Int × Int × Int)} (hs : Sorted (m :: M)) (hp : (m :: M).Perm (x :: R)) (hx : ∀ y ∈ R, klt (ekey x) (ekey y)) : m = x ∧ M.Perm R := by
  have h1 := (List.pairwise_cons.1 hs).1
  have : m = x := by
    have hm : m ∈ x :: R := hp.subset (by simp)
    have hx' : x ∈ m :: M := hp.symm.subset (by simp)
    rcases List.mem_cons.1 hx' with e | hx'
    · exact e.symm
    · rcases List.mem_cons.1 hm with e | hm
      · exact e
      · exact absurd (h1 x hx') (klt_asymm (hx m hm))
  subst this
  exact ⟨rfl, hp.cons_inv⟩
theorem sorted_eq : ∀ {a b : List (Int × Int × Int)}, Sorted a → Sorted b → a.Perm b → a = b
  | [], b, _, _, h => h.nil_eq
  | x :: a, [], _, _, h => absurd h.symm.nil_eq (by simp)
  | x :: a, y :: b, ha, hb, h => by
    obtain ⟨rfl, h'⟩ := head_min ha h (List.pairwise_cons.1 hb).1
    rw [sorted_eq (List.pairwise_cons.1 ha).2 (List.pairwise_cons.1 hb).2 h']
/-- A number as it was before it went through the tree. -/
def uz (x : Int × Int × Int) : Int × Int × Int := (x.1, x.2.1, IntKind.u64.wrap x.2.2)
theorem uz_key (x : Int × Int × Int) : ekey (uz x) = ekey x := rfl
theorem uz_wrap {h : Int} (h0 : 0 ≤ h) (h1 : h ≤ 18446744073709551615) : IntKind.u64.wrap (IntKind.i64.wrap h) = h := by
  have : (IntKind.u64.wrap (IntKind.i64.wrap h)) % 18446744073709551616 = h % 18446744073709551616 := by
    simp only [IntKind.wrap, IntKind.bits, IntKind.signed]
    simp
    omega
  have h2 : 0 ≤ IntKind.u64.wrap (IntKind.i64.wrap h) ∧ IntKind.u64.wrap (IntKind.i64.wrap h) < 18446744073709551616 := by
    generalize IntKind.i64.wrap h = z
    simp only [IntKind.wrap, IntKind.bits, IntKind.signed]
    simp
    omega
  omega
/-- A queue: the tree, what it holds, the row, how its slice stands. -/
structure Fq where
  t : TS
  L : List (Int × Int × Int)
  row : List (Int × Int × Int)
  ro : GO
  room : Nat
structure FR (q : Fq) (M : List (Int × Int × Int)) : Prop where
  tr : TR q.t q.L
  troom : q.t.room = q.room
  rs : Sorted q.row
  perm : M.Perm (q.row ++ q.L.map uz)
  sorted : Sorted M
  le : M.length ≤ q.room
  u : ∀ x ∈ M, 0 ≤ x.2.2 ∧ x.2.2 ≤ 18446744073709551615
  gc : gC q.ro
  none : q.ro = none → q.row.length = 0
variable {q : Fq} {M : List (Int × Int × Int)}
theorem FR.len (h : FR q M) : M.length = q.row.length + q.L.length := by rw [h.perm.length_eq]; simp
theorem FR.rlen (h : FR q M) : q.row.length ≤ 65536 := by have := h.len; have := h.le; have := h.tr.room; have := h.troom; omega
theorem has_iff {k : Int × Int} {L : List (Int × Int × Int)} : has k L = true ↔ ∃ y ∈ L, ekey y = k := by simp [has]
theorem FR.mem (h : FR q M) {k : Int × Int} : (∃ y ∈ M, ekey y = k) ↔ (∃ y ∈ q.row, ekey y = k) ∨ ∃ y ∈ q.L, ekey y = k := by
  constructor
  · rintro ⟨y, hy, e⟩
    rcases List.mem_append.1 (h.perm.subset hy) with hy | hy
    · exact .inl ⟨y, hy, e⟩
    · obtain ⟨z, hz, rfl⟩ := List.mem_map.1 hy; exact .inr ⟨z, hz, e⟩
  · rintro (⟨y, hy, e⟩ | ⟨y, hy, e⟩)
    · exact ⟨y, h.perm.symm.subset (List.mem_append.2 (.inl hy)), e⟩
    · exact ⟨uz y, h.perm.symm.subset (List.mem_append.2 (.inr (List.mem_map.2 ⟨y, hy, rfl⟩))), e⟩
/-- Behind the row's last one. -/
theorem FR.app (h : FR q M) {k : Int × Int} {v : Int} (hv : 0 ≤ v ∧ v ≤ 18446744073709551615) (hk : ∀ y ∈ M, ekey y ≠ k) (hl : ∀ x, q.row.getLast? = some x → ¬ klt k (ekey x)) (hr : M.length < q.room) :
    FR { q with row := q.row ++ [(k.1, k.2, v)], ro := gNew } (ins (k.1, k.2, v) M) := by
  refine ⟨h.tr, h.troom, ?_, ?_, ins_sorted h.sorted fun y hy => hk y hy, ?_, ?_, gC_new, fun e => absurd e gNew_ne⟩
  · show Sorted (q.row ++ [(k.1, k.2, v)])
    refine List.pairwise_append.2 ⟨h.rs, by simp, fun a ha b hb => ?_⟩
    rw [List.mem_singleton] at hb; subst hb
    have ham : a ∈ M := h.perm.symm.subset (List.mem_append.2 (.inl ha))
    have hne := hk a ham
    rcases hq : q.row.getLast? with _ | x
    · have : q.row = [] := by simpa using hq
      rw [this] at ha; cases ha
    · have h1 := hl x hq
      obtain ⟨hne', e⟩ := List.getLast?_eq_some_iff.1 hq
      have hax : a = x ∨ klt (ekey a) (ekey x) := by
        have hs := h.rs
        rw [e] at hs ha
        rcases List.mem_append.1 ha with ha | ha
        · exact .inr ((List.pairwise_append.1 hs).2.2 a ha x (by simp))
        · exact .inl (by simpa using ha)
      have hxk : klt (ekey x) k := by
        by_cases c : klt (ekey x) k
        · exact c
        · exact absurd (klt_eq c h1) (hk x (h.perm.symm.subset (List.mem_append.2 (.inl (by rw [e]; simp)))))
      rcases hax with rfl | hax
      · exact hxk
      · exact klt_trans hax hxk
  · show (ins (k.1, k.2, v) M).Perm ((q.row ++ [(k.1, k.2, v)]) ++ q.L.map uz)
    refine (ins_perm _ _).trans ?_
    refine (h.perm.cons _).trans ?_
    simp only [List.append_assoc]
    exact List.perm_middle.symm
  · rw [(ins_perm _ _).length_eq]; show M.length + 1 ≤ q.room; omega
  · intro x hx
    rcases ins_mem.1 hx with rfl | hx
    · exact hv
    · exact h.u x hx
/-- Into the tree. -/
theorem FR.late (h : FR q M) {k : Int × Int} {v : Int} (hv : 0 ≤ v ∧ v ≤ 18446744073709551615) (hk : ∀ y ∈ M, ekey y ≠ k) (hr : M.length < q.room) {t' : TS} (ht : TR t' (ins (k.1, k.2, IntKind.i64.wrap v) q.L)) (hroom : t'.room = q.t.room) :
    FR { q with t := t', L := ins (k.1, k.2, IntKind.i64.wrap v) q.L } (ins (k.1, k.2, v) M) := by
  have huz : uz (k.1, k.2, IntKind.i64.wrap v) = (k.1, k.2, v) := by simp only [uz]; rw [uz_wrap hv.1 hv.2]
  refine ⟨ht, hroom.trans h.troom, h.rs, ?_, ins_sorted h.sorted fun y hy => hk y hy, ?_, ?_, h.gc, h.none⟩
  · show (ins (k.1, k.2, v) M).Perm (q.row ++ (ins (k.1, k.2, IntKind.i64.wrap v) q.L).map uz)
    refine (ins_perm _ _).trans ((h.perm.cons _).trans ?_)
    refine List.Perm.trans ?_ (List.Perm.append_left _ ((ins_perm _ _).map uz).symm)
    rw [List.map_cons, huz]
    exact List.perm_middle.symm
  · rw [(ins_perm _ _).length_eq]; show M.length + 1 ≤ q.room; omega
  · intro x hx
    rcases ins_mem.1 hx with rfl | hx
    · exact hv
    · exact h.u x hx
/-- Which one is the first. -/
inductive Fst (q : Fq) : List (Int × Int × Int) → Prop
  | nil (h1 : q.row = []) (h2 : q.L = []) : Fst q []
  | late (x : Int × Int × Int) (l : List (Int × Int × Int)) {M : List (Int × Int × Int)} (hL : q.L = x :: l) (hr : ∀ y r, q.row = y :: r → klt (ekey x) (ekey y)) (hM : M.Perm (q.row ++ l.map uz)) : Fst q (uz x :: M)
  | row (x : Int × Int × Int) (r : List (Int × Int × Int)) {M : List (Int × Int × Int)} (hR : q.row = x :: r) (hl : ∀ y l, q.L = y :: l → ¬ klt (ekey y) (ekey x)) (hM : M.Perm (r ++ q.L.map uz)) : Fst q (x :: M)
theorem FR.fst (h : FR q M) : Fst q M := by
  have hLs := h.tr.sorted
  have hperm := h.perm
  rcases hr : q.row with _ | ⟨x, r⟩
  · rcases hl : q.L with _ | ⟨y, l⟩
    · have : M = [] := by rw [hr, hl] at hperm; exact hperm.symm.nil_eq.symm
      subst this; exact .nil hr hl
    · rw [hr, hl] at hperm
      rcases M with _ | ⟨m, M⟩
      · exact absurd hperm.nil_eq (by simp)
      · obtain ⟨e, hp⟩ := head_min (x := uz y) (R := l.map uz) h.sorted (by simpa using hperm) fun z hz => by
          obtain ⟨w, hw, rfl⟩ := List.mem_map.1 hz
          rw [hl] at hLs
          exact (List.pairwise_cons.1 hLs).1 w hw
        rw [e]
        exact .late y l hl (fun a b e => by rw [hr] at e; cases e) (by rw [hr]; simpa using hp)
  · have hxr : ∀ z ∈ r, klt (ekey x) (ekey z) := by have := h.rs; rw [hr] at this; exact (List.pairwise_cons.1 this).1
    rcases M with _ | ⟨m, M⟩
    · rw [hr] at hperm; exact absurd hperm.nil_eq (by simp)
    rcases hl : q.L with _ | ⟨y, l⟩
    · rw [hr, hl] at hperm
      obtain ⟨e, hp⟩ := head_min (x := x) (R := r) h.sorted (by simpa using hperm) hxr
      rw [e]
      exact .row x r hr (fun a b e => by rw [hl] at e; cases e) (by rw [hl]; simpa using hp)
    · have hyl : ∀ z ∈ l, klt (ekey y) (ekey z) := by rw [hl] at hLs; exact (List.pairwise_cons.1 hLs).1
      by_cases c : klt (ekey y) (ekey x)
      · rw [hr, hl] at hperm
        have hp2 : (m :: M).Perm (uz y :: ((x :: r) ++ l.map uz)) := hperm.trans (by rw [List.map_cons]; exact List.perm_middle)
        obtain ⟨e, hp⟩ := head_min h.sorted hp2 fun z hz => by
          rcases List.mem_append.1 hz with hz | hz
          · rcases List.mem_cons.1 hz with rfl | hz
            · exact c
            · exact klt_trans c (hxr z hz)
          · obtain ⟨w, hw, rfl⟩ := List.mem_map.1 hz; exact hyl w hw
        rw [e]
        exact .late y l hl (fun a b e => by rw [hr] at e; cases e; exact c) (by rw [hr]; exact hp)
      · have c' : klt (ekey x) (ekey y) := by
          by_cases c2 : klt (ekey x) (ekey y)
          · exact c2
          · exfalso
            have e := klt_eq c c2
            have hx : x ∈ m :: M := hperm.symm.subset (by rw [hr]; simp)
            have hy : uz y ∈ m :: M := hperm.symm.subset (by rw [hl]; simp)
            -- two places with one key
            have hnd : ((q.row ++ q.L.map uz).map ekey).Nodup := by
              have h1 : ((m :: M).map ekey).Nodup := by
                have := h.sorted
                exact List.pairwise_map.2 (this.imp fun {a b} hab e => by rw [e] at hab; exact klt_irrefl _ hab)
              exact (hperm.map ekey).nodup_iff.1 h1
            rw [hr, hl, List.map_append, List.nodup_append] at hnd
            exact hnd.2.2 (ekey x) (by simp) (ekey y) (by simp [uz_key]) e.symm
        rw [hr] at hperm
        obtain ⟨e, hp⟩ := head_min (x := x) (R := r ++ q.L.map uz) h.sorted (by simpa using hperm) fun z hz => by
          rcases List.mem_append.1 hz with hz | hz
          · exact hxr z hz
          · obtain ⟨w, hw, rfl⟩ := List.mem_map.1 hz
            rw [hl] at hw
            rcases List.mem_cons.1 hw with rfl | hw
            · exact c'
            · exact klt_trans c' (hyl w hw)
        rw [e]
        refine .row x r hr (fun a b e => ?_) hp
        rw [hl] at e; cases e; exact c
end Go.Proofs.Ytjahkgfihdngkaa.Ev.Rb
