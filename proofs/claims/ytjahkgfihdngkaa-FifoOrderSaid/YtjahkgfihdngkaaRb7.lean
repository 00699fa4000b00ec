/- This text of a proof shows: a tree in an array as a row of entries by rising keys: what is found, put in and taken out. -/
import Derived.Test.YtjahkgfihdngkaaRb6
set_option linter.unusedVariables false
set_option linter.unusedSimpArgs false
set_option linter.constructorNameAsVariable false
namespace Go.Proofs.Ytjahkgfihdngkaa.Ev.Rb
open Go Go.Proofs.Ytjahkgfihdngkaa.Ev
def ekey (x : Int × Int × Int) : Int × Int := (x.1, x.2.1)
/-- An entry at its place. -/
def ins (x : Int × Int × Int) : List (Int × Int × Int) → List (Int × Int × Int)
  | [] => [x]
  | y :: l => if klt (ekey x) (ekey y) then x :: y :: l else y :: ins x l
/-- All but a key's. -/
def del (k : Int × Int) (l : List (Int × Int × Int)) : List (Int × Int × Int) := l.filter fun y => decide (ekey y ≠ k)
def has (k : Int × Int) (L : List (Int × Int × Int)) : Bool := L.any fun y => decide (ekey y = k)
def putE (k : Int × Int) (v : Int) (room : Nat) (L : List (Int × Int × Int)) : Int × List (Int × Int × Int) :=
  if has k L = true then (60, L) else if L.length = room then (4, L) else (0, ins (k.1, k.2, v) L)
def Sorted (l : List (Int × Int × Int)) : Prop := l.Pairwise fun a b => klt (ekey a) (ekey b)
theorem ins_mid (x : Int × Int × Int) : ∀ (a b : List (Int × Int × Int)), (∀ y ∈ a, klt (ekey y) (ekey x)) → (∀ y ∈ b, klt (ekey x) (ekey y)) → ins x (a ++ b) = a ++ x :: b
  | [], [], _, _ => rfl
  | [], y :: b, _, h => by simp only [List.nil_append, ins]; rw [if_pos (h y (by simp))]
  | y :: a, b, h1, h2 => by
    simp only [List.cons_append, ins]
    rw [if_neg (klt_asymm (h1 y (by simp))), ins_mid x a b (fun z hz => h1 z (by simp [hz])) h2]
theorem del_mid {k : Int × Int} {x : Int × Int × Int} {a b : List (Int × Int × Int)} (hx : ekey x = k) (h : Sorted (a ++ x :: b)) : del k (a ++ x :: b) = a ++ b := by
  simp only [Sorted, List.pairwise_append, List.pairwise_cons] at h
  obtain ⟨h1, ⟨h2, h3⟩, h4⟩ := h
  have ha : del k a = a := List.filter_eq_self.2 fun y hy => by
    simp only [ne_eq, decide_not, Bool.not_eq_eq_eq_not, Bool.not_true, decide_eq_false_iff_not]
    intro e; have := h4 y hy x (by simp); rw [e, hx] at this; exact klt_irrefl _ this
  have hb : del k b = b := List.filter_eq_self.2 fun y hy => by
    simp only [ne_eq, decide_not, Bool.not_eq_eq_eq_not, Bool.not_true, decide_eq_false_iff_not]
    intro e; have := h2 y hy; rw [e, hx] at this; exact klt_irrefl _ this
  have : del k (a ++ x :: b) = del k a ++ del k b := by simp [del, List.filter_append, hx]
  rw [this, ha, hb]
structure TR (t : TS) (L : List (Int × Int × Int)) : Prop where
  ex : ∃ T, W t.s t.len T ∧ Ok T ∧ Rise t.s.f (ids T) ∧ L = (ids T).map (fun i => (t.s.f i).e) ∧ (∀ i ∈ t.free, i ∉ ids T) ∧ t.len = 1 + (ids T).length + t.free.length
  bd : Bnd t.s t.len
  zero : (t.s.f 0).red = false
  fr : ∀ i ∈ t.free, i ≠ 0 ∧ i < t.len
  fnd : t.free.Nodup
  fnone : t.fo = none → t.free = []
  many : t.many = L.length
  le : t.many ≤ t.room
  room : t.room ≤ 65536
  cap : t.len ≤ t.room + 1
variable {t : TS} {L : List (Int × Int × Int)}
theorem TR.sorted (h : TR t L) : Sorted L := by
  obtain ⟨T, w, ok, ri, rfl, _⟩ := h.ex
  exact List.pairwise_map.2 ri
theorem rise_once {f : Nat → Nd} {l : List Nat} (h : Rise f l) : l.Nodup := h.imp fun {a b} hab e => by subst e; exact klt_irrefl _ hab
/-- What is found. -/
theorem TR.find (h : TR t L) (k : Int × Int) :
    (∃ m x a b, findF m t.s.f k t.s.root 0 = some (x, x) ∧ x ≠ 0 ∧ x < t.len ∧ L = a ++ (t.s.f x).e :: b ∧ ekey (t.s.f x).e = k) ∨
    (∃ m last, findF m t.s.f k t.s.root 0 = some (0, last) ∧ ∀ y ∈ L, ekey y ≠ k) := by
  obtain ⟨T, w, ok, ri, hL, _⟩ := h.ex
  rcases find_w (q := k) T [] w.sh ri (by simp [pre]) (by simp [post]) with ⟨m, x, k', l, c, r, e1, e2, e3, e4⟩ | ⟨m, k', e1, e2, e3, e4⟩
  · refine .inl ⟨m, x, (pre k' ++ ids l).map (fun i => (t.s.f i).e), (ids r ++ post k').map (fun i => (t.s.f i).e), by rw [w.root]; exact e1, e4, ?_, ?_, e3⟩
    · have := w.sh.pos x (by have e2' : T = _ := e2; rw [e2', ids_plug]; simp [ids_mk, ids]); exact this.2
    · rw [hL, show T = _ from e2, ids_plug]; simp [ids_mk, ids]
  · refine .inr ⟨m, upOf k', by rw [w.root]; exact e1, fun y hy => ?_⟩
    rw [hL, show T = _ from e2, ids_plug] at hy
    simp only [ids, List.nil_append, List.map_append, List.mem_append, List.mem_map] at hy
    rcases hy with ⟨i, hi, rfl⟩ | ⟨i, hi, rfl⟩
    · intro e; have := e3 i hi; unfold Nd.key at this; unfold ekey at e; rw [e] at this; exact klt_irrefl _ this
    · intro e; have := e4 i hi; unfold Nd.key at this; unfold ekey at e; rw [e] at this; exact klt_irrefl _ this
/-- The first one. -/
theorem TR.first (h : TR t L) : (L = [] ∧ t.s.root = 0) ∨ ∃ m r l, t.s.root ≠ 0 ∧ minF m t.s.f t.s.root = some r ∧ r ≠ 0 ∧ r < t.len ∧ L = (t.s.f r).e :: l := by
  obtain ⟨T, w, ok, ri, hL, _⟩ := h.ex
  by_cases hT : T = .e
  · subst hT; exact .inl ⟨by rw [hL]; rfl, by rw [w.root]; rfl⟩
  · obtain ⟨m, j, y, c, r, e1, e2, e3, _⟩ := min_w T w.sh hT
    have hy : y ∈ ids T := by rw [e2, ids_plug]; simp [ids_mk, ids]
    refine .inr ⟨m, y, (ids r ++ post j).map (fun i => (t.s.f i).e), ?_, by rw [w.root]; exact e1, (w.sh.pos y hy).1, (w.sh.pos y hy).2, ?_⟩
    · rw [w.root]; exact w.sh.rt_pos hT
    · rw [hL, e2, ids_plug, e3]; simp [ids_mk, ids]
theorem TR.all (h : TR t L) : ∃ m l, orderF m t.s.f t.s.root [] [] = some l ∧ l.length ≤ 100000 ∧ (∀ i ∈ l, i ≠ 0 ∧ i < t.len) ∧ L = l.map fun i => (t.s.f i).e := by
  obtain ⟨T, w, ok, ri, hL, hd, hlen⟩ := h.ex
  obtain ⟨m, e⟩ := order_all w
  have := h.cap
  have := h.room
  exact ⟨m, ids T, e, by omega, w.sh.pos, hL⟩
theorem TR.empty (h : TR t L) : t.many = 0 ↔ L = [] := by rw [h.many]; exact List.length_eq_zero_iff

/-- A new node's place, and the way to it. -/
def newZ (t : TS) : Nat := (t.free.getLast?).getD t.len
def link (s : Rb) (z : Nat) (k : Int × Int) (v : Int) (last : Nat) : Rb :=
  if last = 0 then { f := fupd s.f z ⟨(k.1, k.2, v), 0, 0, last, true⟩, root := z }
  else setK { s with f := fupd s.f z ⟨(k.1, k.2, v), 0, 0, last, true⟩ } (!decide (klt k ((fupd s.f z ⟨(k.1, k.2, v), 0, 0, last, true⟩) last).key)) last z
def newT (t : TS) (s : Rb) : TS :=
  { s := s, len := if t.free = [] then t.len + 1 else t.len, free := t.free.dropLast, fo := if t.free = [] then t.fo else t.fo.map (newZ t :: ·), many := t.many + 1, room := t.room }
theorem W.grow {s : Rb} {len n : Nat} {t : T} (w : W s len t) (h : len ≤ n) : W s n t :=
  ⟨by
    have : ∀ (t : T) (u : Nat), Sh s.f len t u → Sh s.f n t u := by
      intro t
      induction t with
      | e => intros; trivial
      | n l i c r ih1 ih2 =>
        rintro u ⟨a, b, c, d, e, f, g, h'⟩
        exact ⟨a, by omega, c, d, e, f, ih1 _ g, ih2 _ h'⟩
    exact this _ _ w.sh, w.root, w.once⟩
theorem link_E {s : Rb} {z : Nat} {k : Int × Int} {v : Int} {last : Nat} (j : Nat) : ((link s z k v last).f j).e = if j = z then (k.1, k.2, v) else (s.f j).e := by
  unfold link
  split
  · simp only [fupd]; split <;> rfl
  · rw [setK_E]; simp only [fupd]; split <;> rfl
theorem find_det {f : Nat → Nd} {k : Int × Int} : ∀ (n m : Nat) (x l : Nat) (a b : Nat × Nat), findF n f k x l = some a → findF m f k x l = some b → a = b := by
  intro n
  induction n with
  | zero => intro m x l a b h; cases h
  | succ n ih =>
    intro m x l a b h1 h2
    cases m with
    | zero => cases h2
    | succ m =>
      simp only [findF] at h1 h2
      split at h1
      · rename_i c; rw [if_pos c] at h2; cases h1; cases h2; rfl
      · rename_i c; rw [if_neg c] at h2
        split at h1
        · rename_i c; rw [if_pos c] at h2; exact ih _ _ _ _ _ h1 h2
        · rename_i c; rw [if_neg c] at h2
          split at h1
          · rename_i c; rw [if_pos c] at h2; exact ih _ _ _ _ _ h1 h2
          · rename_i c; rw [if_neg c] at h2; cases h1; cases h2; rfl
theorem TR.put (h : TR t L) {k : Int × Int} {m last : Nat} (v : Int) (hf : findF m t.s.f k t.s.root 0 = some (0, last)) (hk : ∀ y ∈ L, ekey y ≠ k) (hr : t.many < t.room) :
    last < t.len ∧ newZ t ≠ 0 ∧ last ≠ newZ t ∧ Bnd (link t.s (newZ t) k v last) (if t.free = [] then t.len + 1 else t.len) ∧ newZ t < (if t.free = [] then t.len + 1 else t.len) ∧
    ∃ n s', settleF n (link t.s (newZ t) k v last) (newZ t) = some s' ∧ TR (newT t s') (ins (k.1, k.2, v) L) := by
  have hmany := h.many
  have hle := h.le
  have hroom := h.room
  have hcap := h.cap
  have hbd := h.bd
  obtain ⟨T, w, ok, ri, hL, hd, hlen⟩ := h.ex
  have hfind : ∃ k', last = upOf k' ∧ T = plug k' .e ∧ (∀ i ∈ pre k', klt (t.s.f i).key k) ∧ (∀ i ∈ post k', klt k (t.s.f i).key) := by
    rcases find_w (q := k) T [] w.sh ri (by simp [pre]) (by simp [post]) with ⟨m', x, k', l, c, r, e1, e2, e3, e4⟩ | ⟨m', k', e1, e2, e3, e4⟩
    · have := find_det _ _ _ _ _ _ (by rw [w.root] at hf; exact hf) e1
      cases this; exact absurd rfl e4
    · have := find_det _ _ _ _ _ _ (by rw [w.root] at hf; exact hf) e1
      cases this
      exact ⟨k', rfl, e2, e3, e4⟩
  obtain ⟨k', rfl, rfl, hpre, hpost⟩ := hfind
  have hnod := rise_once ri
  have z0 : newZ t ≠ 0 ∧ newZ t < (if t.free = [] then t.len + 1 else t.len) ∧ newZ t ∉ ids (plug k' .e) ∧ t.len ≤ (if t.free = [] then t.len + 1 else t.len) := by
    unfold newZ
    cases hq : t.free.getLast? with
    | none =>
      have hfe : t.free = [] := by simpa using hq
      rw [if_pos hfe]
      refine ⟨by simp; omega, by simp, fun hm => ?_, by omega⟩
      have := (w.sh.pos _ hm).2
      simp at this
    | some z =>
      have hz : z ∈ t.free := List.mem_of_getLast? hq
      have hne : t.free ≠ [] := by rintro e; rw [e] at hz; cases hz
      rw [if_neg hne]
      exact ⟨(h.fr z hz).1, (h.fr z hz).2, hd z hz, Nat.le_refl _⟩
  obtain ⟨z1, z2, z3, z4⟩ := z0
  have hup : upOf k' < t.len := by
    cases k' with
    | nil => exact hbd.pos
    | cons f k =>
      obtain ⟨d, p, c, s⟩ := f
      exact (w.sh.pos p (mem_plug.2 (.inr (by simp [idC])))).2
  have hlz : upOf k' ≠ newZ t := by
    cases k' with
    | nil => exact z1.symm
    | cons f k =>
      obtain ⟨d, p, c, s⟩ := f
      intro e
      exact z3 (mem_plug.2 (.inr (by rw [← e]; simp [idC, upOf])))
  have wz := put_w (x := (k.1, k.2, v)) (w.grow z4) z1 z2 z3
  have elink : link t.s (newZ t) k v (upOf k') = hung t.s (newZ t) (k.1, k.2, v) k' := by
    cases k' with
    | nil => rfl
    | cons f kk =>
      obtain ⟨d, p, c, s⟩ := f
      have hp0 : p ≠ 0 := (w.sh.pos p (mem_plug.2 (.inr (by simp [idC])))).1
      have hlz' : p ≠ newZ t := hlz
      unfold link
      rw [if_neg (show upOf ((d, p, c, s) :: kk) ≠ 0 from hp0)]
      show setK { t.s with f := fupd t.s.f (newZ t) ⟨(k.1, k.2, v), 0, 0, p, true⟩ } (!decide (klt k ((fupd t.s.f (newZ t) ⟨(k.1, k.2, v), 0, 0, p, true⟩) p).key)) p (newZ t) = setK { t.s with f := fupd t.s.f (newZ t) ⟨(k.1, k.2, v), 0, 0, p, true⟩ } d p (newZ t)
      have hd : (!decide (klt k ((fupd t.s.f (newZ t) ⟨(k.1, k.2, v), 0, 0, p, true⟩) p).key)) = d := by
        rw [fupd_ne hlz']
        cases d with
        | false =>
          have := hpost p (by simp [post])
          simp [this]
        | true =>
          have := hpre p (by simp [pre])
          simp [klt_asymm this]
      rw [hd]
  rw [← elink] at wz
  have hR0 : ((link t.s (newZ t) k v (upOf k')).f 0).red = false := by
    unfold link
    split
    · simp only []; rw [fupd_ne z1.symm]; exact h.zero
    · rename_i hn
      simp only [setK]; rw [fupd_ne (Ne.symm hn), fupd_ne z1.symm]; exact h.zero
  have hB0 : Bnd t.s (if t.free = [] then t.len + 1 else t.len) → Bnd (link t.s (newZ t) k v (upOf k')) (if t.free = [] then t.len + 1 else t.len) := by
    intro b0
    have hup' : upOf k' < (if t.free = [] then t.len + 1 else t.len) := by omega
    have b1 : Bnd { t.s with f := fupd t.s.f (newZ t) ⟨(k.1, k.2, v), 0, 0, upOf k', true⟩ } (if t.free = [] then t.len + 1 else t.len) := b0.upd b0.pos b0.pos hup'
    unfold link
    split
    · exact ⟨b1.pos, z2, b1.k0, b1.k1, b1.up⟩
    · exact b1.setK hup' z2
  -- the array's new place has nothing
  have hBz : Bnd (link t.s (newZ t) k v (upOf k')) (if t.free = [] then t.len + 1 else t.len) := by
    by_cases hfe : t.free = []
    · have hzl : newZ t = t.len := by unfold newZ; rw [hfe]; rfl
      rw [if_pos hfe]
      have b1 : Bnd { t.s with f := fupd t.s.f t.len ⟨(k.1, k.2, v), 0, 0, upOf k', true⟩ } (t.len + 1) := by
        refine ⟨by omega, by have := hbd.root; show t.s.root < _; omega, fun j hj => ?_, fun j hj => ?_, fun j hj => ?_⟩ <;> simp only [fupd] <;> split
        · simp
        · have := hbd.k0 j (by omega); omega
        · simp
        · have := hbd.k1 j (by omega); omega
        · simp only []; omega
        · have := hbd.up j (by omega); omega
      rw [hzl]
      unfold link
      split
      · exact ⟨b1.pos, by simp, b1.k0, b1.k1, b1.up⟩
      · exact b1.setK (by omega) (by omega)
    · rw [if_neg hfe] at hB0 ⊢
      exact hB0 hbd
  refine ⟨hup, z1, hlz, hBz, z2, ?_⟩
  obtain ⟨n, s', t', e1, e2, e3, e4, e5⟩ := settle_w (k := k') (z := newZ t) (h := 0) (t := Go.Proofs.Ytjahkgfihdngkaa.Ev.Rb.mk false .e (newZ t) true .e) k'.length (Nat.le_refl _) hR0 wz (by simp) (by simp) (bh_t.2 ⟨rfl, rfl, rfl, rfl⟩) (put_ok (z := 0) ok)
  refine ⟨n, s', e1, ?_⟩
  have hE : ∀ j, (s'.f j).e = if j = newZ t then (k.1, k.2, v) else (t.s.f j).e := fun j => by rw [settleF_E e1 j, link_E]
  have hids : ids t' = pre k' ++ newZ t :: post k' := by rw [e3, ids_plug]; simp [ids_mk, ids]
  have hids0 : ids (plug k' .e) = pre k' ++ post k' := by rw [ids_plug]; simp [ids]
  have hzn : newZ t ∉ pre k' ∧ newZ t ∉ post k' := by rw [hids0] at z3; simpa using z3
  have hmap : ∀ l : List Nat, newZ t ∉ l → l.map (fun i => (s'.f i).e) = l.map (fun i => (t.s.f i).e) := fun l hl => List.map_congr_left fun i hi => by rw [hE i, if_neg (by rintro rfl; exact hl hi)]
  have hins : ins (k.1, k.2, v) L = (pre k').map (fun i => (t.s.f i).e) ++ (k.1, k.2, v) :: (post k').map (fun i => (t.s.f i).e) := by
    rw [hL, hids0, List.map_append]
    refine ins_mid _ _ _ (fun y hy => ?_) (fun y hy => ?_)
    · obtain ⟨i, hi, rfl⟩ := List.mem_map.1 hy; exact hpre i hi
    · obtain ⟨i, hi, rfl⟩ := List.mem_map.1 hy; exact hpost i hi
  have hkey : ∀ i, i ≠ newZ t → (s'.f i).key = (t.s.f i).key := fun i hi => by unfold Nd.key; rw [hE i, if_neg hi]
  have hkz : (s'.f (newZ t)).key = k := by unfold Nd.key; rw [hE, if_pos rfl]
  have hrise : Rise s'.f (ids t') := by
    rw [hids]
    rw [hids0] at ri
    unfold Rise at ri ⊢
    rw [List.pairwise_append] at ri ⊢
    obtain ⟨r1, r2, r3⟩ := ri
    refine ⟨r1.imp_of_mem fun {a b} ha hb hab => by rw [hkey a (by rintro rfl; exact hzn.1 ha), hkey b (by rintro rfl; exact hzn.1 hb)]; exact hab, ?_, ?_⟩
    · rw [List.pairwise_cons]
      refine ⟨fun a ha => ?_, r2.imp_of_mem fun {a b} ha hb hab => by rw [hkey a (by rintro rfl; exact hzn.2 ha), hkey b (by rintro rfl; exact hzn.2 hb)]; exact hab⟩
      rw [hkz, hkey a (by rintro rfl; exact hzn.2 ha)]; exact hpost a ha
    · intro a ha b hb
      rw [hkey a (by rintro rfl; exact hzn.1 ha)]
      rcases List.mem_cons.1 hb with rfl | hb
      · rw [hkz]; exact hpre a ha
      · rw [hkey b (by rintro rfl; exact hzn.2 hb)]; exact r3 a ha b hb
  have hlen' : (ids t').length = (ids (plug k' .e)).length + 1 := by rw [hids, hids0]; simp; omega
  have hLl : (ins (k.1, k.2, v) L).length = L.length + 1 := by rw [hins, hL, hids0]; simp; omega
  have hdl : t.free ≠ [] → newZ t ∈ t.free ∧ t.free = t.free.dropLast ++ [newZ t] := fun hne => by
    unfold newZ
    cases hq : t.free.getLast? with
    | none => exact absurd (by simpa using hq) hne
    | some z =>
      obtain ⟨_, e⟩ := List.getLast?_eq_some_iff.1 hq
      refine ⟨List.mem_of_getLast? hq, ?_⟩
      simp only [Option.getD_some]
      rw [e]; simp
  refine ⟨⟨t', e2, e4, hrise, ?_, ?_, ?_⟩, Bnd.settleF hBz z2 e1, e5, ?_, ?_, ?_, ?_, ?_, h.room, ?_⟩
  · rw [hins, hids]
    simp only [newT, List.map_append, List.map_cons]
    rw [hmap _ hzn.1, hmap _ hzn.2, hE, if_pos rfl]
  · intro i hi
    simp only [newT] at hi
    have hne : t.free ≠ [] := by rintro e; rw [e] at hi; cases hi
    have hi' : i ∈ t.free := List.dropLast_subset _ hi
    have h1 := hd i hi'
    rw [hids0] at h1
    rw [hids]
    intro hm
    rcases List.mem_append.1 hm with hm | hm
    · exact h1 (by simp [hm])
    · rcases List.mem_cons.1 hm with rfl | hm
      · have h2 := h.fnd
        rw [(hdl hne).2, List.nodup_append] at h2
        exact h2.2.2 _ hi _ (by simp) rfl
      · exact h1 (by simp [hm])
  · simp only [newT]
    rw [hlen']
    by_cases hfe : t.free = []
    · rw [if_pos hfe]; simp [hfe] at hlen ⊢; omega
    · rw [if_neg hfe]
      have := congrArg List.length (hdl hfe).2
      simp at this ⊢
      omega
  · intro i hi
    simp only [newT] at hi ⊢
    have hi' : i ∈ t.free := List.dropLast_subset _ hi
    have := h.fr i hi'
    omega
  · simp only [newT]; exact h.fnd.sublist (List.dropLast_sublist _)
  · simp only [newT]
    intro hn
    by_cases hfe : t.free = []
    · simp [hfe]
    · rw [if_neg hfe] at hn
      have : t.fo = none := by simpa using hn
      exact absurd (h.fnone this) hfe
  · simp only [newT]; rw [hLl]; omega
  · simp only [newT]; omega
  · simp only [newT]
    by_cases hfe : t.free = []
    · rw [if_pos hfe]; simp [hfe] at hlen; rw [hL] at hmany; simp at hmany; omega
    · rw [if_neg hfe]; exact hcap
def setZero (s : Rb) : Rb := { s with f := fupd s.f 0 nd0 }
def oldT (t : TS) (s : Rb) (x : Nat) : TS := { s := setZero s, len := t.len, free := t.free ++ [x], fo := some [], many := t.many - 1, room := t.room }
theorem zero_E {s : Rb} {j : Nat} (h : j ≠ 0) : (setZero s).f j = s.f j := fupd_ne h
theorem TR.drop (h : TR t L) {k : Int × Int} {m x : Nat} (hf : findF m t.s.f k t.s.root 0 = some (x, x)) (hx : x ≠ 0) :
    ∃ my y, (kid t.s.f x false ≠ 0 → kid t.s.f x true ≠ 0 → minF my t.s.f (kid t.s.f x true) = some y) ∧ y < t.len ∧
      ∃ n s2, (if (cut t.s x y).2.1 = true then s2 = (cut t.s x y).1 else liftF n (cut t.s x y).1 (cut t.s x y).2.2 = some s2) ∧ TR (oldT t s2 x) (del k L) := by
  have hsort := h.sorted
  have hmany := h.many
  have hle := h.le
  have hcap := h.cap
  have hbd := h.bd
  obtain ⟨T, w, ok, ri, hL, hd, hlen⟩ := h.ex
  have hfind : ∃ k' l c r, T = plug k' (Go.Proofs.Ytjahkgfihdngkaa.Ev.Rb.mk false l x c r) ∧ (t.s.f x).key = k := by
    rcases find_w (q := k) T [] w.sh ri (by simp [pre]) (by simp [post]) with ⟨m', x', k', l, c, r, e1, e2, e3, e4⟩ | ⟨m', k', e1, e2, e3, e4⟩
    · have := find_det _ _ _ _ _ _ (by rw [w.root] at hf; exact hf) e1
      cases this; exact ⟨k', l, c, r, e2, e3⟩
    · have := find_det _ _ _ _ _ _ (by rw [w.root] at hf; exact hf) e1
      exact absurd (congrArg Prod.fst this) hx
  obtain ⟨k', l, c, r, rfl, hkey⟩ := hfind
  have ax := at_w w
  have shx := sh_mk.1 (sh_plug.1 w.sh).1
  have hkl : kid t.s.f x false = rt l := ax.kd
  have hkr : kid t.s.f x true = rt r := ax.kn
  have hy : ∃ my y, (l ≠ .e → r ≠ .e → minF my t.s.f (rt r) = some y) ∧ y < t.len := by
    by_cases hr : r = .e
    · exact ⟨0, 0, fun _ q => absurd hr q, hbd.pos⟩
    · obtain ⟨my, j, y, c', r', e1, e2, e3, _⟩ := min_w r shx.2.2.2.2.2.2.2 hr
      refine ⟨my, y, fun _ _ => e1, ?_⟩
      exact (shx.2.2.2.2.2.2.2.pos y (by rw [e2, ids_plug]; simp [ids_mk])).2
  obtain ⟨my, y, hmin, hyl⟩ := hy
  have hrt : ∀ q : T, rt q ≠ 0 → q ≠ .e := by rintro q h rfl; exact h rfl
  refine ⟨my, y, fun h1 h2 => by rw [hkr] at h2 ⊢; rw [hkl] at h1; exact hmin (hrt _ h1) (hrt _ h2), hyl, ?_⟩
  obtain ⟨kk, t1, w1, e1, e2, e3, e4, e5, e6⟩ := cut_w w ok h.zero hmin
  have bc := hbd.cut ax.lt hyl
  have fin : ∀ (s2 : Rb) (t2 : T), W s2 t.len t2 → ids t2 = ids (plug kk t1) → Ok t2 → Bnd s2 t.len → (∀ j, (s2.f j).e = (t.s.f j).e) → TR (oldT t s2 x) (del k L) := by
    intro s2 t2 w2 hi2 ok2 b2 hE
    have hids : ids (plug k' (Go.Proofs.Ytjahkgfihdngkaa.Ev.Rb.mk false l x c r)) = (pre k' ++ ids l) ++ x :: (ids r ++ post k') := by rw [ids_plug]; simp [ids_mk]
    have hid2 : ids t2 = (pre k' ++ ids l) ++ (ids r ++ post k') := by rw [hi2, e4]; simp
    have hpos : ∀ i ∈ ids t2, i ≠ 0 := fun i hi => (w2.sh.pos i hi).1
    have hEe : ∀ i, i ≠ 0 → ((setZero s2).f i).e = (t.s.f i).e := fun i hi => by rw [zero_E hi, hE]
    have hdel : del k L = (ids t2).map (fun i => (t.s.f i).e) := by
      rw [hL, hids, List.map_append, List.map_cons] at hsort
      rw [hL, hids, List.map_append, List.map_cons, del_mid hkey hsort, hid2]
      simp only [List.map_append]
    have hnd := rise_once ri
    rw [hids] at hnd hd hlen
    have hxn : x ∉ ids t2 := by
      rw [hid2]
      intro hm
      rw [List.nodup_append] at hnd
      rcases List.mem_append.1 hm with hm | hm
      · exact hnd.2.2 _ hm _ (by simp) rfl
      · exact (List.nodup_cons.1 hnd.2.1).1 hm
    have hLl : L.length = (ids t2).length + 1 := by rw [hL, hids, hid2]; simp; omega
    refine ⟨⟨t2, W.frame w2 rfl fun i hi => zero_E hi, ok2, ?_, ?_, ?_, ?_⟩, ?_, ?_, ?_, ?_, ?_, ?_, ?_, h.room, hcap⟩
    · unfold Rise at ri ⊢
      have hs : List.Sublist (ids t2) (ids (plug k' (Go.Proofs.Ytjahkgfihdngkaa.Ev.Rb.mk false l x c r))) := by
        rw [hid2, hids]
        exact List.Sublist.append (List.Sublist.refl _) (List.sublist_cons_self _ _)
      refine (List.Pairwise.sublist hs ri).imp_of_mem fun {a b} ha hb hab => ?_
      have e1 : ∀ i, i ∈ ids t2 → ((setZero s2).f i).key = (t.s.f i).key := fun i hi => by unfold Nd.key; rw [hEe i (hpos i hi)]
      show klt ((setZero s2).f a).key ((setZero s2).f b).key
      rw [e1 a ha, e1 b hb]; exact hab
    · rw [hdel]
      exact List.map_congr_left fun i hi => (hEe i (hpos i hi)).symm
    · intro i hi
      rcases List.mem_append.1 hi with hi | hi
      · have := hd i hi
        rw [hid2]; simp at this ⊢
        exact ⟨this.1, this.2.1, this.2.2.2.1, this.2.2.2.2⟩
      · rw [List.mem_singleton] at hi; subst hi; exact hxn
    · show t.len = 1 + (ids t2).length + (t.free ++ [x]).length
      simp at hlen ⊢
      rw [hid2]; simp; omega
    · exact b2.upd b2.pos b2.pos b2.pos
    · show ((setZero s2).f 0).red = false
      simp only [setZero]; rw [fupd_same]; rfl
    · intro i hi
      rcases List.mem_append.1 hi with hi | hi
      · exact h.fr i hi
      · rw [List.mem_singleton] at hi; subst hi; exact ⟨hx, ax.lt⟩
    · show (t.free ++ [x]).Nodup
      rw [List.nodup_append]
      refine ⟨h.fnd, by simp, fun a ha b hb e => ?_⟩
      rw [List.mem_singleton] at hb
      subst hb; subst e
      exact hd a ha (by simp)
    · intro e; cases e
    · show t.many - 1 = (del k L).length
      rw [hdel]; simp; omega
    · show t.many - 1 ≤ t.room; omega
  by_cases hrd : (cut t.s x y).2.1 = true
  · refine ⟨0, _, by rw [if_pos hrd], fin _ _ w1 rfl (e5 hrd) bc.1 fun j => cut_E j⟩
  · have hrd' : (cut t.s x y).2.1 = false := by simpa using hrd
    obtain ⟨g1, g2⟩ := e6 hrd'
    obtain ⟨n, s2, t2, q1, q2, q3, q4⟩ := lift_w kk.length (Nat.le_refl _) e3 (by rw [e1]; exact e2) w1 g1 g2
    rw [e1] at q1
    exact ⟨n, s2, by rw [if_neg hrd]; exact q1, fin _ _ q2 q3 q4 (Bnd.liftF bc.1 bc.2 q1) fun j => by rw [liftF_E q1, cut_E]⟩
end Go.Proofs.Ytjahkgfihdngkaa.Ev.Rb
