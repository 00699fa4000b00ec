/- This text of a proof shows: how a node is found, hung in and taken out of a red-black tree in an array. -/
import Derived.Test.YtjahkgfihdngkaaRb3
set_option linter.unusedVariables false
set_option linter.unusedSimpArgs false
set_option linter.constructorNameAsVariable false
namespace Go.Proofs.Ytjahkgfihdngkaa.Ev.Rb
variable {len : Nat}
theorem fupd_p {β : Type} (g : Nd → β) {f : Nat → Nd} {i : Nat} {x : Nd} (h : g x = g (f i)) (j : Nat) : g (fupd f i x j) = g (f j) := by
  simp only [fupd]
  split
  · rename_i e; rw [h, e]
  · rfl
theorem hang_p {β : Type} (g : Nd → β) (hk : ∀ x d v, g (x.setK d v) = g x) (hu : ∀ (x : Nd) v, g { x with up := v } = g x) (s : Rb) (x z i : Nat) : g ((hang s x z).f i) = g (s.f i) := by
  simp only [hang, setUp]
  rw [fupd_p g (hu _ _)]
  split
  · rfl
  · simp only [setK]; exact fupd_p g (hk _ _ _) _
theorem plug_app : ∀ (j k : Ctx) (t : T), plug (j ++ k) t = plug k (plug j t)
  | [], _, _ => rfl
  | (d, p, c, s) :: j, k, t => by simp only [List.cons_append, plug]; exact plug_app j k _
theorem CB_app : ∀ {j : Ctx} {k : Ctx} {d c : Bool} {p q : Nat} {s : T} {h : Nat}, CB (j ++ (d, p, c, s) :: k) h → CB (j ++ (d, q, c, s) :: k) h
  | [], k, d, true, p, q, s, h, hc => hc
  | [], k, d, false, p, q, s, h, hc => hc
  | (d1, p1, false, s1) :: j, k, d, c, p, q, s, h, hc => ⟨hc.1, CB_app hc.2⟩
  | (d1, p1, true, s1) :: [], k, d, c, p, q, s, h, hc => ⟨hc.1, hc.2.1, by cases c <;> exact hc.2.2.1, CB_app (j := []) hc.2.2.2⟩
  | (d1, p1, true, s1) :: (d2, p2, c2, s2) :: j, k, d, c, p, q, s, h, hc => ⟨hc.1, hc.2.1, by cases c2 <;> exact hc.2.2.1, CB_app (j := (d2, p2, c2, s2) :: j) hc.2.2.2⟩
theorem topB_app {j k : Ctx} {d c : Bool} {p q : Nat} {s : T} (h : topB (j ++ (d, p, c, s) :: k)) : topB (j ++ (d, q, c, s) :: k) := by
  match j, h with
  | [], h => cases c <;> exact h
  | (d1, p1, c1, s1) :: j, h => cases c1 <;> exact h
/-- A node with one kid at most goes: that one hangs in its place. -/
theorem hang_w {s : Rb} {k : Ctx} {d c : Bool} {t : T} {z : Nat} (w : W s len (plug k (mk d .e z c t))) :
    W (hang s (rt t) z) len (plug k t) ∧ ((hang s (rt t) z).f (rt t)).up = upOf k ∧ (∀ i, ((hang s (rt t) z).f i).red = (s.f i).red) ∧ (∀ i, i ≠ rt t → cntC k i = 0 → (hang s (rt t) z).f i = s.f i) := by
  obtain ⟨hs, hr, h1⟩ := w
  obtain ⟨ht, hk⟩ := sh_plug.1 hs
  obtain ⟨x0, xl, xa, xb, xu, xr, sa, sb⟩ := sh_mk.1 ht
  rw [rt_mk] at hk
  rw [rt_plug, rt_mk] at hr
  have hc : ∀ y, (if z = y then 1 else 0) + cnt t y + cntC k y ≤ 1 := fun y => by
    have := h1 y
    rw [cnt_plug, cnt_mk] at this
    simp [cnt, ids] at this ⊢
    exact this
  have hz := hc z
  rw [if_pos rfl] at hz
  have hrt : cntC k (rt t) = 0 := by
    by_cases e : rt t = 0
    · rw [e]
      cases q : cntC k 0 with
      | zero => rfl
      | succ n => exact absurd rfl (hk.pos 0 (cntC_pos.2 (by omega))).1
    · have := hc (rt t)
      have := cnt_pos.1 (rt_mem e)
      omega
  obtain ⟨q1, q2, q3, q4⟩ := hang_cx (s := s) (h := rt t) hk xu x0 (by omega) hrt (fun y => by have := hc y; omega) hr
  refine ⟨⟨sh_plug.2 ⟨sb.reup (fun y => by have := hc y; omega) (fun _ => q4) fun i hi hir => ?_, q1⟩, by rw [rt_plug]; exact q2, fun y => ?_⟩, by rw [q4], fun i => ?_, q3⟩
  · have := cnt_pos.1 hi
    have := hc i
    exact q3 i hir (by omega)
  · rw [cnt_plug]; have := hc y; omega
  · exact hang_p (fun x => x.red) (fun _ _ _ => setK_red _ _ _) (fun _ _ => rfl) s (rt t) z i

def minF : Nat → (Nat → Nd) → Nat → Option Nat
  | 0, _, _ => none
  | n + 1, f, x => if (f x).k0 = 0 then some x else minF n f (f x).k0
theorem min_w {f : Nat → Nd} : ∀ (t : T) {u : Nat}, Sh f len t u → t ≠ .e → ∃ m j y c r, minF m f (rt t) = some y ∧ t = plug j (mk false .e y c r) ∧ pre j = [] ∧ (j = [] → y = rt t)
  | .e, _, _, h => absurd rfl h
  | .n l i c r, u, h, _ => by
    obtain ⟨a1, a2, a3, a4, a5, a6, a7, a8⟩ := h
    by_cases hl : l = .e
    · subst hl
      exact ⟨1, [], i, c, r, by simp [minF, rt, a3], rfl, rfl, fun _ => rfl⟩
    · obtain ⟨m, j, y, c', r', e1, e2, e3, _⟩ := min_w l a7 hl
      have hr := a7.rt_pos hl
      refine ⟨m + 1, j ++ [(false, i, c, r)], y, c', r', ?_, ?_, ?_, by simp⟩
      · show minF (m + 1) f i = some y
        simp only [minF]; rw [if_neg (by rw [a3]; exact hr), a3]; exact e1
      · rw [plug_app, ← e2]; rfl
      · clear e1 e2
        have : ∀ j : Ctx, pre (j ++ [(false, i, c, r)]) = pre j := by
          intro j
          induction j with
          | nil => rfl
          | cons x j ih =>
            obtain ⟨d, p, cc, s⟩ := x
            cases d
            · exact ih
            · simp only [List.cons_append, pre]; rw [ih]
        rw [this, e3]

/-- A node is taken out: what its place has then, the colour that went, where a black one may lack. -/
def cut (s : Rb) (z y : Nat) : Rb × Bool × Nat :=
  if kid s.f z false = 0 then (hang s (kid s.f z true) z, (s.f z).red, kid s.f z true)
  else if kid s.f z true = 0 then (hang s (kid s.f z false) z, (s.f z).red, kid s.f z false)
  else
    let x := kid s.f y true
    let s1 := if (s.f y).up = z then setUp s x y else
      let s2 := setK (hang s x y) true y (kid (hang s x y).f z true)
      setUp s2 (kid s2.f y true) y
    let s3 := hang s1 y z
    let s4 := setK s3 false y (kid s3.f z false)
    let s5 := setUp s4 (kid s4.f y false) y
    (setRed s5 y (s5.f z).red, (s.f y).red, x)
/-- Behind the first half: y is out, has the right kid that z has. -/
structure Mid (s : Rb) (len : Nat) (k : Ctx) (l r : T) (z y : Nat) (c : Bool) : Prop where
  cx : Cx s.f len k z
  zup : (s.f z).up = upOf k
  zl : kid s.f z false = rt l
  zr : (s.f z).red = c
  shl : Sh s.f len l z
  y0 : y ≠ 0
  z0 : z ≠ 0
  yl : y < len
  yr : kid s.f y true = rt r
  shr : Sh s.f len r y
  root : s.root = rtC k z
  once : ∀ i, (if z = i then 1 else 0) + (if y = i then 1 else 0) + cnt l i + cnt r i + cntC k i ≤ 1
theorem swap_w {s : Rb} {k : Ctx} {l r : T} {z y : Nat} {c : Bool} (h : Mid s len k l r z y c) (hl : l ≠ .e) :
    let s3 := hang s y z
    let s4 := setK s3 false y (kid s3.f z false)
    let s5 := setUp s4 (kid s4.f y false) y
    W (setRed s5 y (s5.f z).red) len (plug k (mk false l y c r)) ∧ (∀ i, i ≠ y → i ≠ rt l → cntC k i = 0 → (setRed s5 y (s5.f z).red).f i = s.f i) := by
  have hc := h.once
  have hz := hc z
  have hy := hc y
  rw [if_pos rfl] at hz
  rw [if_pos rfl] at hy
  have hyz : y ≠ z := by rintro rfl; rw [if_pos rfl] at hz; omega
  obtain ⟨q1, q2, q3, q4⟩ := hang_cx (s := s) (h := y) h.cx h.zup h.z0 (by omega) (by omega) (fun i => by have := hc i; omega) h.root
  have hl0 := h.shl.rt_pos hl
  have hlc := cnt_pos.1 (rt_mem hl0)
  have hlr := hc (rt l)
  have hly : rt l ≠ y := by rintro e; rw [e] at hlc; omega
  have hlz : rt l ≠ z := by rintro e; rw [e] at hlc; omega
  intro s3 s4 s5
  have e3z : s3.f z = s.f z := q3 z hyz.symm (by omega)
  have ek : kid s3.f z false = rt l := by rw [kid, e3z]; exact h.zl
  have e4y : s4.f y = (s3.f y).setK false (rt l) := by simp only [s4, setK, ek]; exact fupd_same _ _ _
  have e4 : ∀ i, i ≠ y → s4.f i = s3.f i := fun i hi => by simp only [s4, setK]; exact fupd_ne hi
  have ek4 : kid s4.f y false = rt l := by rw [kid, e4y, setK_kid]
  have e5l : s5.f (rt l) = { s4.f (rt l) with up := y } := by simp only [s5, setUp, ek4]; exact fupd_same _ _ _
  have e5 : ∀ i, i ≠ rt l → s5.f i = s4.f i := fun i hi => by simp only [s5, setUp, ek4]; exact fupd_ne hi
  have e5z : (s5.f z).red = c := by rw [e5 z hlz.symm, e4 z hyz.symm, e3z]; exact h.zr
  generalize hs6 : setRed s5 y (s5.f z).red = s6
  have e6y : s6.f y = { s5.f y with red := c } := by rw [← hs6, e5z]; exact fupd_same _ _ _
  have e6 : ∀ i, i ≠ y → s6.f i = s5.f i := fun i hi => by rw [← hs6]; exact fupd_ne hi
  have all : ∀ i, i ≠ y → i ≠ rt l → s6.f i = s3.f i := fun i h1 h2 => by rw [e6 i h1, e5 i h2, e4 i h1]
  have ey : s6.f y = { ({ s.f y with up := upOf k } : Nd).setK false (rt l) with red := c } := by rw [e6y, e5 y hly.symm, e4y, q4]
  have hr6 : s6.root = s3.root := by rw [← hs6]; rfl
  refine ⟨⟨sh_plug.2 ⟨sh_mk.2 ⟨h.y0, h.yl, ?_, ?_, ?_, ?_, ?_, ?_⟩, ?_⟩, ?_, fun i => ?_⟩, fun i h1 h2 h3 => ?_⟩
  · rw [kid, ey, kid_red, setK_kid]
  · rw [kid, ey, kid_red, setK_kid']; exact h.yr
  · rw [ey]; rfl
  · rw [ey]
  · refine h.shl.reup (fun i => by have := hc i; omega) (fun _ => ?_) fun i hi hil => ?_
    · rw [e6 _ hly, e5l, e4 _ hly, q3 _ hly (by omega)]
    · have h2 := cnt_pos.1 hi
      have h3 := hc i
      rw [all i (by rintro rfl; omega) hil]
      exact q3 i (by rintro rfl; omega) (by omega)
  · refine h.shr.frame fun i hi => ?_
    have h2 := cnt_pos.1 hi
    have h3 := hc i
    rw [all i (by rintro rfl; omega) (by rintro e; subst e; omega)]
    exact q3 i (by rintro rfl; omega) (by omega)
  · rw [rt_mk]
    refine q1.frame fun i hi => ?_
    have h2 := cntC_pos.1 hi
    have h3 := hc i
    exact all i (by rintro rfl; omega) (by rintro e; subst e; omega)
  · rw [hr6, rt_plug, rt_mk]; exact q2
  · rw [cnt_plug, cnt_mk]; have := hc i; omega
  · rw [all i h1 h2]; exact q3 i h1 h3

theorem ok_gone {k kk : Ctx} {d c : Bool} {z : Nat} {t : T} (h : Ok (plug k (mk d .e z c t))) (h1 : ∀ h, CB k h → CB kk h) (h2 : topB k → topB kk) : (c = true → Ok (plug kk t)) ∧ (c = false → Lk t 0 ∧ CB kk 1) := by
  obtain ⟨n, hb, hc, ht⟩ := ok_plug.1 h
  rw [red_mk] at ht
  refine ⟨fun e => ?_, fun e => ?_⟩
  · subst e
    obtain ⟨a, b, e0, b1⟩ := bh_t.1 hb
    exact ok_plug.2 ⟨n, b1, h1 _ hc, by rw [b]; simp⟩
  · subst e
    obtain ⟨j, rfl, e0, b1⟩ := bh_f.1 hb
    simp only [BH] at e0
    subst e0
    refine ⟨?_, h1 _ hc⟩
    cases hr : red t with
    | false => exact .inl ⟨hr, b1⟩
    | true =>
      cases t with
      | e => cases hr
      | n a i c b =>
        have : c = true := hr
        subst this
        exact .inr ⟨false, a, i, b, rfl, b1.2.2.1, b1.2.2.2⟩

theorem cut_w {s : Rb} {k : Ctx} {l r : T} {z : Nat} {c : Bool} {m y : Nat} (w : W s len (plug k (mk false l z c r))) (ok : Ok (plug k (mk false l z c r))) (h0 : (s.f 0).red = false)
    (hy : l ≠ .e → r ≠ .e → minF m s.f (rt r) = some y) :
    ∃ kk t, W (cut s z y).1 len (plug kk t) ∧ rt t = (cut s z y).2.2 ∧ ((cut s z y).1.f (cut s z y).2.2).up = upOf kk ∧ ((cut s z y).1.f 0).red = false ∧ ids (plug kk t) = pre k ++ (ids l ++ (ids r ++ post k)) ∧
      ((cut s z y).2.1 = true → Ok (plug kk t)) ∧ ((cut s z y).2.1 = false → Lk t 0 ∧ CB kk 1) := by
  have az := at_w w
  have hl : kid s.f z false = rt l := az.kd
  have hr : kid s.f z true = rt r := az.kn
  have shz := sh_mk.1 (sh_plug.1 w.sh).1
  by_cases el : l = .e
  · subst el
    obtain ⟨w1, w2, w3, _⟩ := hang_w w
    have ec : cut s z y = (hang s (rt r) z, c, rt r) := by
      simp only [cut, hl, hr]; rw [if_pos (show rt T.e = 0 from rfl), az.rd]
    rw [ec]
    obtain ⟨g1, g2⟩ := ok_gone ok (fun _ h => h) (fun h => h)
    exact ⟨k, r, w1, rfl, w2, by rw [w3]; exact h0, by rw [ids_plug]; simp [ids], g1, g2⟩
  · have hl0 := shz.2.2.2.2.2.2.1.rt_pos el
    by_cases er : r = .e
    · subst er
      have w' : W s len (plug k (mk true .e z c l)) := w
      obtain ⟨w1, w2, w3, _⟩ := hang_w w'
      have ec : cut s z y = (hang s (rt l) z, c, rt l) := by
        simp only [cut, hl, hr]; rw [if_neg hl0, if_pos (show rt T.e = 0 from rfl), az.rd]
      rw [ec]
      obtain ⟨g1, g2⟩ := ok_gone (d := true) ok (fun _ h => h) (fun h => h)
      exact ⟨k, l, w1, rfl, w2, by rw [w3]; exact h0, by rw [ids_plug]; simp [ids], g1, g2⟩
    · have hr0 := shz.2.2.2.2.2.2.2.rt_pos er
      obtain ⟨m', j, y', cy, t, e1, e2, e3, e4⟩ := min_w r shz.2.2.2.2.2.2.2 er
      have hmm : ∀ (n : Nat) (f : Nat → Nd) (x a b : Nat) (m : Nat), minF m f x = some a → minF n f x = some b → a = b := by
        intro n
        induction n with
        | zero => intro f x a b m _ h; cases h
        | succ n ih =>
          intro f x a b m h1 h2
          cases m with
          | zero => cases h1
          | succ m =>
            simp only [minF] at h1 h2
            split at h1
            · rename_i h; rw [if_pos h] at h2; cases h1; cases h2; rfl
            · rename_i h; rw [if_neg h] at h2; exact ih _ _ _ _ _ h1 h2
      have hyy := hmm _ _ _ _ _ _ (hy el er) e1
      subst hyy
      subst e2
      have wy : W s len (plug (j ++ (true, z, c, l) :: k) (mk false .e y cy t)) := by rw [plug_app]; exact w
      have ay := at_w wy
      have hyr : kid s.f y true = rt t := ay.kn
      have oky : Ok (plug (j ++ (true, z, c, l) :: k) (mk false .e y cy t)) := by rw [plug_app]; exact ok
      have hcn : ∀ i, (if z = i then 1 else 0) + (if y = i then 1 else 0) + cnt l i + cnt t i + cntC j i + cntC k i ≤ 1 := fun i => by
        have := w.once i
        rw [cnt_plug, cnt_mk, cnt_plug, cnt_mk] at this
        have e0 : cnt .e i = 0 := by simp [cnt, ids]
        omega
      have hcz := hcn z
      have hcy := hcn y
      rw [if_pos rfl] at hcz hcy
      have hyz : y ≠ z := by rintro rfl; rw [if_pos rfl] at hcz; omega
      have hidj : ∀ i, cntC j i = 0 ∨ cntC j i = 1 := fun i => by have := hcn i; omega
      -- the first half
      have mid : ∃ s1 : Rb, (if (s.f y).up = z then setUp s (rt t) y else setUp (setK (hang s (rt t) y) true y (kid (hang s (rt t) y).f z true)) (kid (setK (hang s (rt t) y) true y (kid (hang s (rt t) y).f z true)).f y true) y) = s1 ∧
          Mid s1 len k l (plug j t) z y c ∧ (s1.f (rt t)).up = upOf (j ++ (true, y, c, l) :: k) ∧ (s1.f 0).red = false := by
        refine ⟨_, rfl, ?_⟩
        by_cases ej : j = []
        · subst ej
          have hyu : (s.f y).up = z := ay.up
          rw [if_pos hyu]
          have hsh := (sh_mk.1 (sh_mk.1 (sh_plug.1 w.sh).1).2.2.2.2.2.2.2)
          have hst : Sh s.f len t y := hsh.2.2.2.2.2.2.2
          have hkk := (sh_plug.1 w.sh).2
          have hne : ∀ i, i ≠ 0 → cnt t i = 0 → i ≠ rt t := fun i hi hc e => by
            have := cnt_pos.1 (rt_mem (t := t) (by rw [← e]; exact hi)); rw [← e] at this; omega
          have hsz : ∀ i, i ≠ rt t → (setUp s (rt t) y).f i = s.f i := fun i hi => fupd_ne hi
          have hzt := hne z az.ne (by omega)
          have hyt := hne y ay.ne (by omega)
          refine ⟨⟨?_, ?_, ?_, ?_, ?_, ay.ne, az.ne, ay.lt, ?_, ?_, ?_, fun i => ?_⟩, ?_, ?_⟩
          · rw [rt_mk] at hkk
            exact hkk.frame fun i hi => hsz i (hne i (hkk.pos i hi).1 (by have := cntC_pos.1 hi; have := hcn i; omega))
          · rw [hsz _ hzt]; exact az.up
          · rw [kid, hsz _ hzt]; exact hl
          · rw [hsz _ hzt]; exact az.rd
          · exact shz.2.2.2.2.2.2.1.frame fun i hi => hsz i (hne i (shz.2.2.2.2.2.2.1.pos i hi).1 (by have := cnt_pos.1 hi; have := hcn i; omega))
          · rw [kid, hsz _ hyt]; exact hyr
          · exact hst.reup (fun i => by have := hcn i; omega) (fun _ => fupd_same _ _ _) fun i hi hir => hsz i hir
          · show s.root = _; rw [w.root, rt_plug, rt_mk]
          · have := hcn i; simp only [plug]; simp [cntC, idC] at this ⊢; omega
          · show ((setUp s (rt t) y).f (rt t)).up = y
            simp only [setUp]; rw [fupd_same]
          · by_cases e : rt t = 0
            · rw [e]; simp only [setUp]; rw [fupd_same]; exact h0
            · rw [hsz 0 (Ne.symm e)]; exact h0
        · have hyu : (s.f y).up ≠ z := by
            rw [ay.up]
            obtain ⟨f, j', rfl⟩ := List.exists_cons_of_ne_nil ej
            obtain ⟨d, p, c', u⟩ := f
            show p ≠ z
            rintro rfl
            have : cntC ((d, p, c', u) :: j') p ≥ 1 := by simp [cntC, idC, List.count_cons]
            omega
          rw [if_neg hyu]
          obtain ⟨w1, w2, w3, w4⟩ := hang_w wy
          generalize hs1 : hang s (rt t) y = s1 at w1 w2 w3 w4
          have w1' : W s1 len (plug k (mk false l z c (plug j t))) := by rw [plug_app] at w1; exact w1
          have az1 := at_w w1'
          have shz1 := sh_mk.1 (sh_plug.1 w1'.sh).1
          have hk1 : kid s1.f z true = rt (plug j t) := az1.kn
          have hrj : rt (plug j t) = rt (plug j (mk false .e y cy t)) := by
            obtain ⟨f, j', rfl⟩ := List.exists_cons_of_ne_nil ej
            obtain ⟨d, p, c', u⟩ := f
            rw [rt_plug, rt_plug]; rfl
          have hrp : rt (plug j t) ≠ 0 := by rw [hrj]; exact hr0
          have hrm := cnt_pos.1 (rt_mem hrp)
          rw [cnt_plug] at hrm
          have hrn := hcn (rt (plug j t))
          have hry : rt (plug j t) ≠ y := by intro e; rw [e] at hrm; omega
          have hrz : rt (plug j t) ≠ z := by intro e; rw [e] at hrm; omega
          have hkk : cntC (j ++ (true, z, c, l) :: k) y = 0 := by
            simp [cntC, idC] at hcy ⊢
            have happ : ∀ (j k : Ctx), idC (j ++ k) = idC j ++ idC k := by
              intro j k; induction j with
              | nil => rfl
              | cons f j ih => obtain ⟨d, p, c, s⟩ := f; simp [idC, ih]
            rw [happ]
            simp [idC, List.count_append, List.count_cons, hyz.symm]
            simp [cnt] at hcy
            omega
          have hyt : y ≠ rt t := by
            intro e
            have := cnt_pos.1 (rt_mem (t := t) (by rw [← e]; exact ay.ne)); rw [← e] at this; omega
          have ey1 : s1.f y = s.f y := w4 y hyt hkk
          rw [hk1]
          have ky : kid (setK s1 true y (rt (plug j t))).f y true = rt (plug j t) := by simp only [setK, kid]; rw [fupd_same, setK_kid]
          rw [ky]
          generalize hs2 : setUp (setK s1 true y (rt (plug j t))) (rt (plug j t)) y = s2
          have f2y : s2.f y = (s1.f y).setK true (rt (plug j t)) := by rw [← hs2]; simp only [setUp, setK]; rw [fupd_ne hry.symm, fupd_same]
          have f2r : s2.f (rt (plug j t)) = { s1.f (rt (plug j t)) with up := y } := by rw [← hs2]; simp only [setUp, setK]; rw [fupd_same, fupd_ne hry]
          have f2 : ∀ i, i ≠ y → i ≠ rt (plug j t) → s2.f i = s1.f i := fun i h1 h2 => by rw [← hs2]; simp only [setUp, setK]; rw [fupd_ne h2, fupd_ne h1]
          have hkx := (sh_plug.1 w1'.sh).2
          rw [rt_mk] at hkx
          refine ⟨⟨?_, ?_, ?_, ?_, ?_, ay.ne, az.ne, ay.lt, ?_, ?_, ?_, fun i => ?_⟩, ?_, ?_⟩
          · refine hkx.frame fun i hi => ?_
            have := cntC_pos.1 hi; have h3 := hcn i
            exact f2 i (by rintro rfl; omega) (by rintro e; subst e; omega)
          · rw [f2 z hyz.symm hrz.symm]; exact az1.up
          · rw [kid, f2 z hyz.symm hrz.symm]; exact az1.kd
          · rw [f2 z hyz.symm hrz.symm]; exact az1.rd
          · refine shz1.2.2.2.2.2.2.1.frame fun i hi => ?_
            have := cnt_pos.1 hi; have h3 := hcn i
            exact f2 i (by rintro rfl; omega) (by rintro e; subst e; omega)
          · rw [kid, f2y, setK_kid]
          · refine shz1.2.2.2.2.2.2.2.reup (fun i => by rw [cnt_plug]; have := hcn i; omega) (fun _ => f2r) fun i hi hir => ?_
            have := cnt_pos.1 hi; have h3 := hcn i
            rw [cnt_plug] at this
            exact f2 i (by rintro rfl; omega) hir
          · have : s2.root = s1.root := by rw [← hs2]; rfl
            rw [this, w1'.root, rt_plug, rt_mk]
          · rw [cnt_plug]; have := hcn i; omega
          · have hxu : upOf (j ++ (true, y, c, l) :: k) = upOf (j ++ (true, z, c, l) :: k) := by
              obtain ⟨f, j', rfl⟩ := List.exists_cons_of_ne_nil ej
              rfl
            rw [hxu, ← w2]
            by_cases e : rt t = rt (plug j t)
            · exfalso
              have h1 := cnt_pos.1 (rt_mem (t := t) (by rw [e]; exact hrp))
              obtain ⟨f, j', rfl⟩ := List.exists_cons_of_ne_nil ej
              have hmem : rt (plug (f :: j') t) ∈ idC (f :: j') := by
                obtain ⟨d, p, c', u⟩ := f
                rw [rt_plug]
                have : ∀ (k : Ctx) (p : Nat), rtC k p = p ∨ rtC k p ∈ idC k := by
                  intro k
                  induction k with
                  | nil => intro p; exact .inl rfl
                  | cons f k ih =>
                    intro p
                    obtain ⟨d, q, c, u⟩ := f
                    rcases ih q with h | h <;> exact .inr (by simp [rtC, idC, h])
                rcases this j' p with h | h <;> simp [rtC, idC, h]
              have h2 := cntC_pos.1 hmem
              rw [← e] at h2
              have := hcn (rt t)
              omega
            · rw [f2 _ hyt.symm e]
          · rw [f2 0 ay.ne.symm hrp.symm, w3]; exact h0
      obtain ⟨s1, hs1, hm, hxu, h01⟩ := mid
      obtain ⟨v1, v2⟩ := swap_w hm el
      generalize hs6 : setRed (setUp (setK (hang s1 y z) false y (kid (hang s1 y z).f z false)) (kid (setK (hang s1 y z) false y (kid (hang s1 y z).f z false)).f y false) y) y ((setUp (setK (hang s1 y z) false y (kid (hang s1 y z).f z false)) (kid (setK (hang s1 y z) false y (kid (hang s1 y z).f z false)).f y false) y).f z).red = s6 at v1 v2
      have ec : cut s z y = (s6, cy, rt t) := by
        have hl1 := hl0
        have hr1 := hr0
        simp only [cut, hl, hr, hyr]
        rw [if_neg hl1, if_neg hr1, ay.rd, hs1, hs6]
      rw [ec]
      obtain ⟨g1, g2⟩ := ok_gone (kk := j ++ (true, y, c, l) :: k) oky (fun _ h => CB_app h) (fun h => topB_app h)
      have hup6 : ((s6.f (rt t)).up = upOf (j ++ (true, y, c, l) :: k)) ∧ (s6.f 0).red = false := by
        have pk := hm.cx.pos
        have n0 : cntC k 0 = 0 := by
          cases q : cntC k 0 with
          | zero => rfl
          | succ n => exact absurd rfl (pk 0 (cntC_pos.2 (by omega))).1
        refine ⟨?_, by rw [v2 0 ay.ne.symm hl0.symm n0]; exact h01⟩
        by_cases e : rt t = 0
        · rw [e, v2 0 ay.ne.symm hl0.symm n0, ← e]; exact hxu
        · have h1 := cnt_pos.1 (rt_mem e)
          have h2 := hcn (rt t)
          rw [v2 (rt t) (by intro e; rw [e] at h1; omega) (by
            intro e2
            have := cnt_pos.1 (rt_mem hl0)
            rw [← e2] at this; omega) (by omega)]
          exact hxu
      refine ⟨_, t, by rw [plug_app]; exact v1, rfl, hup6.1, hup6.2, ?_, g1, g2⟩
      rw [plug_app, ids_plug]
      simp only [plug, mk, ids]
      rw [ids_plug, ids_plug, e3]
      simp [mk, ids, pre, post]
end Go.Proofs.Ytjahkgfihdngkaa.Ev.Rb
