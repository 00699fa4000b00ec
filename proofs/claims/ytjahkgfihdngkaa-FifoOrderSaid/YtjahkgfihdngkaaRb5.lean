/- This text of a proof shows: keys are found in a red-black tree in an array, its nodes are told in order, and no way leads out of the array. -/
import Derived.Test.YtjahkgfihdngkaaRb4
set_option linter.unusedVariables false
set_option linter.unusedSimpArgs false
set_option linter.constructorNameAsVariable false
namespace Go.Proofs.Ytjahkgfihdngkaa.Ev.Rb
variable {len : Nat}
/-- A key is ahead of another one. -/
def klt (a b : Int × Int) : Prop := a.1 < b.1 ∨ a.1 = b.1 ∧ a.2 < b.2
instance (a b : Int × Int) : Decidable (klt a b) := by unfold klt; infer_instance
theorem klt_irrefl (a : Int × Int) : ¬ klt a a := by unfold klt; omega
theorem klt_asymm {a b : Int × Int} (h : klt a b) : ¬ klt b a := by unfold klt at *; omega
theorem klt_trans {a b c : Int × Int} (h : klt a b) (k : klt b c) : klt a c := by unfold klt at *; omega
theorem klt_eq {a b : Int × Int} (h : ¬ klt a b) (k : ¬ klt b a) : a = b := by
  unfold klt at *; obtain ⟨a1, a2⟩ := a; obtain ⟨b1, b2⟩ := b; simp only [Prod.mk.injEq] at *; omega
def Nd.key (x : Nd) : Int × Int := (x.e.1, x.e.2.1)
def findF : Nat → (Nat → Nd) → Int × Int → Nat → Nat → Option (Nat × Nat)
  | 0, _, _, _, _ => none
  | n + 1, f, k, x, last => if x = 0 then some (0, last) else if klt k (f x).key then findF n f k (f x).k0 x else if klt (f x).key k then findF n f k (f x).k1 x else some (x, x)
/-- The keys rise. -/
def Rise (f : Nat → Nd) (l : List Nat) : Prop := l.Pairwise fun i j => klt (f i).key (f j).key
theorem find_w {f : Nat → Nd} {q : Int × Int} : ∀ (t : T) (k : Ctx), Sh f len t (upOf k) → Rise f (ids t) → (∀ i ∈ pre k, klt (f i).key q) → (∀ i ∈ post k, klt q (f i).key) →
    (∃ m x k' l c r, findF m f q (rt t) (upOf k) = some (x, x) ∧ plug k t = plug k' (mk false l x c r) ∧ (f x).key = q ∧ x ≠ 0) ∨
    (∃ m k', findF m f q (rt t) (upOf k) = some (0, upOf k') ∧ plug k t = plug k' .e ∧ (∀ i ∈ pre k', klt (f i).key q) ∧ (∀ i ∈ post k', klt q (f i).key))
  | .e, k, _, _, h1, h2 => .inr ⟨1, k, by simp [findF, rt], rfl, h1, h2⟩
  | .n l i c r, k, hs, hr, h1, h2 => by
    obtain ⟨a1, a2, a3, a4, a5, a6, a7, a8⟩ := hs
    simp only [ids, Rise, List.pairwise_append, List.pairwise_cons] at hr
    obtain ⟨r1, ⟨r2, r3⟩, r4⟩ := hr
    by_cases c1 : klt q (f i).key
    · have ih := find_w l ((false, i, c, r) :: k) a7 r1 h1 (fun j hj => by
        simp only [post, List.cons_append, List.mem_cons, List.mem_append] at hj
        rcases hj with rfl | hj | hj
        · exact c1
        · exact klt_trans c1 (r2 j hj)
        · exact h2 j hj)
      have hg : ∀ m, findF (m + 1) f q i (upOf k) = findF m f q (rt l) i := fun m => by
        simp only [findF]; rw [if_neg a1, if_pos c1, a3]
      rcases ih with ⟨m, x, k', l', c', r', e1, e2, e3, e4⟩ | ⟨m, k', e1, e2, e3, e4⟩
      · exact .inl ⟨m + 1, x, k', l', c', r', (hg m).trans e1, e2, e3, e4⟩
      · exact .inr ⟨m + 1, k', (hg m).trans e1, e2, e3, e4⟩
    · by_cases c2 : klt (f i).key q
      · have ih := find_w r ((true, i, c, l) :: k) a8 r3 (fun j hj => by
          simp only [pre, List.mem_append, List.mem_singleton] at hj
          rcases hj with hj | hj | rfl
          · exact h1 j hj
          · exact klt_trans (r4 j hj i (by simp)) c2
          · exact c2) h2
        have hg : ∀ m, findF (m + 1) f q i (upOf k) = findF m f q (rt r) i := fun m => by
          simp only [findF]; rw [if_neg a1, if_neg c1, if_pos c2, a4]
        rcases ih with ⟨m, x, k', l', c', r', e1, e2, e3, e4⟩ | ⟨m, k', e1, e2, e3, e4⟩
        · exact .inl ⟨m + 1, x, k', l', c', r', (hg m).trans e1, e2, e3, e4⟩
        · exact .inr ⟨m + 1, k', (hg m).trans e1, e2, e3, e4⟩
      · refine .inl ⟨1, i, k, l, c, r, ?_, rfl, (klt_eq c1 c2).symm, a1⟩
        show findF 1 f q i (upOf k) = _
        simp only [findF]; rw [if_neg a1, if_neg c1, if_neg c2]

/-- A new node hangs at the end of a way. -/
def hung (s : Rb) (z : Nat) (x : Int × Int × Int) : Ctx → Rb
  | [] => { f := fupd s.f z ⟨x, 0, 0, 0, true⟩, root := z }
  | (d, p, _, _) :: _ => setK { s with f := fupd s.f z ⟨x, 0, 0, p, true⟩ } d p z
theorem put_w {s : Rb} {k : Ctx} {z : Nat} {x : Int × Int × Int} (w : W s len (plug k .e)) (z0 : z ≠ 0) (zl : z < len) (hz : z ∉ ids (plug k .e)) :
    W (hung s z x k) len (plug k (mk false .e z true .e)) := by
  have hk := (sh_plug.1 w.sh).2
  have hzk : cntC k z = 0 := by
    cases q : cntC k z with
    | zero => rfl
    | succ n => exact absurd (mem_plug.2 (.inr (cntC_pos.2 (by omega)))) hz
  have once : ∀ i, cnt (plug k (mk false .e z true .e)) i ≤ 1 := fun i => by
    have := w.once i
    rw [cnt_plug] at this ⊢
    rw [cnt_mk]
    have e0 : cnt .e i = 0 := by simp [cnt, ids]
    split
    · rename_i e; subst e; omega
    · omega
  cases k with
  | nil =>
    exact ⟨sh_mk.2 ⟨z0, zl, by simp [hung, kid, fupd_same, Nd.kid, rt], by simp [hung, kid, fupd_same, Nd.kid, rt], by simp [hung, fupd_same], by simp [hung, fupd_same], trivial, trivial⟩, by simp [hung, plug], once⟩
  | cons fr k =>
    obtain ⟨d, p, c, t⟩ := fr
    obtain ⟨a1, a2, a3, a4, a5, a6, a7, a8⟩ := hk
    have hpz : p ≠ z := by
      rintro rfl
      simp [cntC, idC, List.count_cons] at hzk
    have hc := w.once
    have hcc : ∀ i, (if p = i then 1 else 0) + cnt t i + cntC k i ≤ 1 := fun i => by
      have := hc i
      rw [cnt_plug] at this
      simp [cntC, idC, List.count_cons, List.count_append] at this
      simp only [cnt, cntC]
      omega
    have hzz : cnt t z = 0 ∧ cntC k z = 0 := by
      simp only [cntC, idC, List.count_cons, List.count_append] at hzk
      simp only [cnt, cntC]
      omega
    simp only [hung]
    refine ⟨?_, ?_, once⟩
    · refine sh_plug.2 ⟨sh_mk.2 ⟨z0, zl, ?_, ?_, ?_, ?_, trivial, trivial⟩, ?_⟩
      · simp only [setK, kid]; rw [fupd_ne hpz.symm, fupd_same]; rfl
      · simp only [setK, kid]; rw [fupd_ne hpz.symm, fupd_same]; rfl
      · simp only [setK, upOf]; rw [fupd_ne hpz.symm, fupd_same]
      · simp only [setK]; rw [fupd_ne hpz.symm, fupd_same]
      · rw [rt_mk]
        refine ⟨a1, a2, ?_, ?_, ?_, ?_, ?_, ?_⟩
        · simp only [setK, kid]; rw [fupd_same, setK_kid]
        · simp only [setK, kid]; rw [fupd_same, setK_kid', fupd_ne hpz]; exact a4
        · simp only [setK]; rw [fupd_same, setK_up, fupd_ne hpz]; exact a5
        · simp only [setK]; rw [fupd_same, setK_red, fupd_ne hpz]; exact a6
        · refine a7.frame fun i hi => ?_
          have := cnt_pos.1 hi; have h3 := hcc i
          simp only [setK]
          rw [fupd_ne (by rintro rfl; rw [if_pos rfl] at h3; omega), fupd_ne (by rintro rfl; omega)]
        · refine a8.frame fun i hi => ?_
          have := cntC_pos.1 hi; have h3 := hcc i
          simp only [setK]
          rw [fupd_ne (by rintro rfl; rw [if_pos rfl] at h3; omega), fupd_ne (by rintro rfl; omega)]
    · show s.root = _
      rw [w.root, rt_plug, rt_plug]; rfl
theorem put_ok {k : Ctx} {z : Nat} (h : Ok (plug k .e)) : CB k 0 := by
  obtain ⟨n, h1, h2, _⟩ := ok_plug.1 h
  simp only [BH] at h1
  subst h1; exact h2

-- nothing leads out of the array
structure Bnd (s : Rb) (len : Nat) : Prop where
  pos : 0 < len
  root : s.root < len
  k0 : ∀ i, i < len → (s.f i).k0 < len
  k1 : ∀ i, i < len → (s.f i).k1 < len
  up : ∀ i, i < len → (s.f i).up < len
theorem Bnd.kid {s : Rb} (h : Bnd s len) {i : Nat} (hi : i < len) (d : Bool) : kid s.f i d < len := by
  cases d
  · exact h.k0 i hi
  · exact h.k1 i hi
theorem Bnd.upd {s : Rb} (h : Bnd s len) {i : Nat} {x : Nd} (h0 : x.k0 < len) (h1 : x.k1 < len) (hu : x.up < len) : Bnd { s with f := fupd s.f i x } len := by
  refine ⟨h.pos, h.root, fun j hj => ?_, fun j hj => ?_, fun j hj => ?_⟩ <;> simp only [fupd] <;> split
  · exact h0
  · exact h.k0 j hj
  · exact h1
  · exact h.k1 j hj
  · exact hu
  · exact h.up j hj
theorem Bnd.setK {s : Rb} (h : Bnd s len) {d : Bool} {i v : Nat} (hi : i < len) (hv : v < len) : Bnd (setK s d i v) len := by
  cases d
  · exact h.upd hv (h.k1 i hi) (h.up i hi)
  · exact h.upd (h.k0 i hi) hv (h.up i hi)
theorem Bnd.setUp {s : Rb} (h : Bnd s len) {i v : Nat} (hi : i < len) (hv : v < len) : Bnd (setUp s i v) len := h.upd (h.k0 i hi) (h.k1 i hi) hv
theorem Bnd.setRed {s : Rb} (h : Bnd s len) {i : Nat} {c : Bool} (hi : i < len) : Bnd (setRed s i c) len := h.upd (h.k0 i hi) (h.k1 i hi) (h.up i hi)
theorem Bnd.hang {s : Rb} (h : Bnd s len) {x z : Nat} (hx : x < len) (hz : z < len) : Bnd (hang s x z) len := by
  unfold Rb.hang
  refine Bnd.setUp ?_ hx (h.up z hz)
  split
  · exact ⟨h.pos, hx, h.k0, h.k1, h.up⟩
  · exact h.setK (h.up z hz) hx
theorem Bnd.turn {s : Rb} (h : Bnd s len) {x : Nat} {d : Bool} (hx : x < len) : Bnd (turn s x d) len := by
  have hy := h.kid hx (!d)
  have hi := h.kid hy d
  have h1 := (h.hang hy hx).setK (d := !d) hx hi
  unfold Rb.turn
  dsimp only
  split
  · exact (h1.setK hy hx).setUp hx hy
  · exact ((h1.setUp hi hx).setK hy hx).setUp hx hy
theorem Bnd.settle1 {s : Rb} (h : Bnd s len) {z : Nat} (hz : z < len) : Bnd (settle1 s z).1 len ∧ (settle1 s z).2 < len := by
  have hp := h.up z hz
  have hg := h.up _ hp
  have hu := h.kid hg (!side s (s.f z).up)
  simp only [Rb.settle1]
  split
  · exact ⟨((h.setRed hp).setRed hu).setRed hg, hg⟩
  · split
    · exact ⟨((h.setRed hp).setRed hg).turn hg, hz⟩
    · have h1 := h.turn (d := side s (s.f z).up) hp
      exact ⟨((h1.setRed (h1.up _ hp)).setRed hg).turn hg, hp⟩
theorem Bnd.settleF : ∀ {m : Nat} {s s' : Rb} {z : Nat}, Bnd s len → z < len → settleF m s z = some s' → Bnd s' len
  | 0, _, _, _, _, _, h => by cases h
  | m + 1, s, s', z, h, hz, e => by
    simp only [Rb.settleF] at e
    split at e
    · exact Bnd.settleF (h.settle1 hz).1 (h.settle1 hz).2 e
    · cases e; exact h.setRed h.root
theorem Bnd.lift2 {s : Rb} (h : Bnd s len) {p w : Nat} {d : Bool} (hp : p < len) (hw : w < len) : Bnd (lift2 s p w d).1 len ∧ (lift2 s p w d).2 < len := by
  unfold Rb.lift2
  dsimp only
  split
  · exact ⟨h.setRed hw, hp⟩
  · have key : ∀ (s : Rb) (w : Nat), Bnd s len → w < len → Bnd (Rb.turn (Rb.setRed (Rb.setRed (Rb.setRed s w (s.f p).red) p false) (Rb.kid (Rb.setRed (Rb.setRed s w (s.f p).red) p false).f w (!d)) false) p d) len := fun s w h hw => by
      have h1 := (h.setRed (c := (s.f p).red) hw).setRed (c := false) hp
      exact (h1.setRed (h1.kid hw (!d))).turn hp
    split
    · exact ⟨key _ _ h hw, (key _ _ h hw).root⟩
    · have h1 : Bnd (Rb.turn (Rb.setRed (Rb.setRed s (Rb.kid s.f w d) false) w true) w (!d)) len := ((h.setRed (h.kid hw d)).setRed hw).turn hw
      have h2 := h1.kid hp (!d)
      exact ⟨key _ _ h1 h2, (key _ _ h1 h2).root⟩
theorem Bnd.lift1 {s : Rb} (h : Bnd s len) {x : Nat} (hx : x < len) : Bnd (lift1 s x).1 len ∧ (lift1 s x).2 < len := by
  have hp := h.up x hx
  have hw := h.kid hp (!!decide ((s.f (s.f x).up).k0 = x))
  unfold Rb.lift1
  dsimp only
  split
  · have h1 := ((h.setRed (c := false) hw).setRed (c := true) hp).turn (d := !decide ((s.f (s.f x).up).k0 = x)) hp
    exact h1.lift2 hp (h1.kid hp _)
  · exact h.lift2 hp hw
theorem Bnd.liftF : ∀ {m : Nat} {s s' : Rb} {z : Nat}, Bnd s len → z < len → liftF m s z = some s' → Bnd s' len
  | 0, _, _, _, _, _, h => by cases h
  | m + 1, s, s', z, h, hz, e => by
    simp only [Rb.liftF] at e
    split at e
    · exact Bnd.liftF (h.lift1 hz).1 (h.lift1 hz).2 e
    · cases e; exact h.setRed hz
theorem Bnd.minF {s : Rb} (h : Bnd s len) : ∀ {m : Nat} {x y : Nat}, x < len → minF m s.f x = some y → y < len
  | 0, _, _, _, e => by cases e
  | m + 1, x, y, hx, e => by
    simp only [Rb.minF] at e
    split at e
    · cases e; exact hx
    · exact Bnd.minF h (h.k0 x hx) e
theorem Bnd.cut {s : Rb} (h : Bnd s len) {z y : Nat} (hz : z < len) (hy : y < len) : Bnd (cut s z y).1 len ∧ (cut s z y).2.2 < len := by
  have hl := h.kid hz false
  have hr := h.kid hz true
  have hx := h.kid hy true
  unfold Rb.cut
  split
  · exact ⟨h.hang hr hz, hr⟩
  · split
    · exact ⟨h.hang hl hz, hl⟩
    · dsimp only
      have fin : ∀ s1 : Rb, Bnd s1 len → Bnd (Rb.setRed (Rb.setUp (Rb.setK (Rb.hang s1 y z) false y (Rb.kid (Rb.hang s1 y z).f z false)) (Rb.kid (Rb.setK (Rb.hang s1 y z) false y (Rb.kid (Rb.hang s1 y z).f z false)).f y false) y) y
          ((Rb.setUp (Rb.setK (Rb.hang s1 y z) false y (Rb.kid (Rb.hang s1 y z).f z false)) (Rb.kid (Rb.setK (Rb.hang s1 y z) false y (Rb.kid (Rb.hang s1 y z).f z false)).f y false) y).f z).red) len := fun s1 h1 => by
        have h3 := h1.hang hy hz
        have h4 := h3.setK (d := false) hy (h3.kid hz false)
        exact (h4.setUp (h4.kid hy false) hy).setRed hy
      refine ⟨fin _ ?_, hx⟩
      split
      · exact h.setUp hx hy
      · have h1 := h.hang hx hy
        have h2 := h1.setK (d := true) hy (h1.kid hz true)
        exact h2.setUp (h2.kid hy true) hy

-- what stands in a node stays
theorem setK_E {s : Rb} {d : Bool} {i v : Nat} (j : Nat) : ((setK s d i v).f j).e = (s.f j).e := fupd_p Nd.e (setK_e _ _ _) _
theorem setUp_E {s : Rb} {i v : Nat} (j : Nat) : ((setUp s i v).f j).e = (s.f j).e := fupd_p (fun x => x.e) (by rfl) _
theorem setRed_E {s : Rb} {i : Nat} {c : Bool} (j : Nat) : ((setRed s i c).f j).e = (s.f j).e := fupd_p (fun x => x.e) (by rfl) _
theorem hang_E {s : Rb} {x z : Nat} (j : Nat) : ((hang s x z).f j).e = (s.f j).e := hang_p Nd.e setK_e (fun _ _ => rfl) s x z j
theorem turn_E {s : Rb} {x : Nat} {d : Bool} (j : Nat) : ((turn s x d).f j).e = (s.f j).e := by
  unfold turn; dsimp only
  rw [setUp_E, setK_E]
  split
  · rw [setK_E, hang_E]
  · rw [setUp_E, setK_E, hang_E]
theorem settle1_E {s : Rb} {z : Nat} (j : Nat) : ((settle1 s z).1.f j).e = (s.f j).e := by
  unfold settle1; dsimp only
  split
  · dsimp only; rw [setRed_E, setRed_E, setRed_E]
  · split
    · dsimp only; rw [turn_E, setRed_E, setRed_E]
    · dsimp only; rw [turn_E, setRed_E, setRed_E, turn_E]
theorem settleF_E : ∀ {m : Nat} {s s' : Rb} {z : Nat}, settleF m s z = some s' → ∀ j, (s'.f j).e = (s.f j).e
  | 0, _, _, _, h, _ => by cases h
  | m + 1, s, s', z, h, j => by
    simp only [settleF] at h
    split at h
    · rw [settleF_E h j, settle1_E]
    · cases h; exact setRed_E j
theorem lift2_E {s : Rb} {p w : Nat} {d : Bool} (j : Nat) : ((lift2 s p w d).1.f j).e = (s.f j).e := by
  unfold lift2; dsimp only
  split
  · dsimp only; rw [setRed_E]
  · dsimp only
    split
    · rw [turn_E, setRed_E, setRed_E, setRed_E]
    · rw [turn_E, setRed_E, setRed_E, setRed_E]; dsimp only; rw [turn_E, setRed_E, setRed_E]
theorem lift1_E {s : Rb} {x : Nat} (j : Nat) : ((lift1 s x).1.f j).e = (s.f j).e := by
  unfold lift1; dsimp only
  split
  · rw [lift2_E, turn_E, setRed_E, setRed_E]
  · rw [lift2_E]
theorem liftF_E : ∀ {m : Nat} {s s' : Rb} {z : Nat}, liftF m s z = some s' → ∀ j, (s'.f j).e = (s.f j).e
  | 0, _, _, _, h, _ => by cases h
  | m + 1, s, s', z, h, j => by
    simp only [liftF] at h
    split at h
    · rw [liftF_E h j, lift1_E]
    · cases h; exact setRed_E j
theorem cut_E {s : Rb} {z y : Nat} (j : Nat) : ((cut s z y).1.f j).e = (s.f j).e := by
  unfold cut; dsimp only
  split
  · exact hang_E j
  · split
    · exact hang_E j
    · dsimp only; rw [setRed_E, setUp_E, setK_E, hang_E]
      split
      · exact setUp_E j
      · rw [setUp_E, setK_E, hang_E]

/-- All nodes, in order, by a row of those to come. -/
def orderF : Nat → (Nat → Nd) → Nat → List Nat → List Nat → Option (List Nat)
  | 0, _, _, _, _ => none
  | n + 1, f, x, todo, out => if x ≠ 0 then orderF n f (f x).k0 (todo ++ [x]) out else match todo.getLast? with
    | none => some out
    | some y => orderF n f (f y).k1 todo.dropLast (out ++ [y])
theorem order_w {f : Nat → Nd} : ∀ (t : T) {u : Nat}, Sh f len t u → ∃ c, ∀ m todo out, orderF (m + c) f (rt t) todo out = orderF m f 0 todo (out ++ ids t)
  | .e, _, _ => ⟨0, fun m todo out => by simp [rt, ids]⟩
  | .n l i c r, _, h => by
    obtain ⟨a1, a2, a3, a4, a5, a6, a7, a8⟩ := h
    obtain ⟨c1, h1⟩ := order_w l a7
    obtain ⟨c2, h2⟩ := order_w r a8
    refine ⟨c2 + 1 + c1 + 1, fun m todo out => ?_⟩
    show orderF (m + (c2 + 1 + c1) + 1) f i todo out = _
    rw [orderF, if_pos a1, a3, show m + (c2 + 1 + c1) = (m + c2 + 1) + c1 by omega, h1, orderF, if_neg (by simp)]
    simp only [List.getLast?_concat, List.dropLast_concat]
    rw [a4, h2]
    simp [ids]
theorem order_all {s : Rb} {t : T} (w : W s len t) : ∃ m, orderF m s.f s.root [] [] = some (ids t) := by
  obtain ⟨c, h⟩ := order_w t w.sh
  refine ⟨1 + c, ?_⟩
  rw [w.root, h]
  simp [orderF]
end Go.Proofs.Ytjahkgfihdngkaa.Ev.Rb
