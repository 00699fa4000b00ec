/- This text of a proof shows: red-black trees that stand in an array, with a way up, in plain numbers: what a turn, a hang and a colour do. -/
set_option linter.unusedVariables false
set_option linter.unusedSimpArgs false
set_option linter.constructorNameAsVariable false
namespace Go.Proofs.Ytjahkgfihdngkaa.Ev.Rb
structure Nd where
  e : Int × Int × Int
  k0 : Nat
  k1 : Nat
  up : Nat
  red : Bool
def nd0 : Nd := ⟨(0, 0, 0), 0, 0, 0, false⟩
/-- The nodes, and the root. -/
structure Rb where
  f : Nat → Nd
  root : Nat
def fupd (f : Nat → Nd) (i : Nat) (x : Nd) : Nat → Nd := fun j => if j = i then x else f j
def Nd.kid (x : Nd) : Bool → Nat
  | false => x.k0
  | true => x.k1
def Nd.setK (x : Nd) : Bool → Nat → Nd
  | false, v => { x with k0 := v }
  | true, v => { x with k1 := v }
def kid (f : Nat → Nd) (i : Nat) (d : Bool) : Nat := (f i).kid d
def setK (s : Rb) (d : Bool) (i v : Nat) : Rb := { s with f := fupd s.f i ((s.f i).setK d v) }
def setUp (s : Rb) (i v : Nat) : Rb := { s with f := fupd s.f i { s.f i with up := v } }
def setRed (s : Rb) (i : Nat) (c : Bool) : Rb := { s with f := fupd s.f i { s.f i with red := c } }
def side (s : Rb) (x : Nat) : Bool := !decide ((s.f (s.f x).up).k0 = x)
def hang (s : Rb) (x place : Nat) : Rb :=
  setUp (if (s.f place).up = 0 then { s with root := x } else setK s (side s place) (s.f place).up x) x (s.f place).up
def turn (s : Rb) (x : Nat) (d : Bool) : Rb :=
  let y := kid s.f x (!d)
  let i := kid s.f y d
  let s1 := setK (hang s y x) (!d) x i
  let s2 := if i = 0 then s1 else setUp s1 i x
  setUp (setK s2 d y x) x y

theorem fupd_same (f : Nat → Nd) (i : Nat) (x : Nd) : fupd f i x i = x := by simp [fupd]
theorem fupd_ne {f : Nat → Nd} {i j : Nat} {x : Nd} (h : j ≠ i) : fupd f i x j = f j := by simp [fupd, h]
theorem setK_e (x : Nd) (d : Bool) (v : Nat) : (x.setK d v).e = x.e := by cases d <;> rfl
theorem setK_up (x : Nd) (d : Bool) (v : Nat) : (x.setK d v).up = x.up := by cases d <;> rfl
theorem setK_red (x : Nd) (d : Bool) (v : Nat) : (x.setK d v).red = x.red := by cases d <;> rfl
theorem setK_kid (x : Nd) (d : Bool) (v : Nat) : (x.setK d v).kid d = v := by cases d <;> rfl
theorem setK_kid' (x : Nd) (d : Bool) (v : Nat) : (x.setK d v).kid (!d) = x.kid (!d) := by cases d <;> rfl
theorem setK_kid'' (x : Nd) (d : Bool) (v : Nat) : (x.setK (!d) v).kid d = x.kid d := by cases d <;> rfl
theorem kid_up (x : Nd) (d : Bool) (v : Nat) : ({ x with up := v } : Nd).kid d = x.kid d := by cases d <;> rfl
theorem kid_red (x : Nd) (d : Bool) (v : Bool) : ({ x with red := v } : Nd).kid d = x.kid d := by cases d <;> rfl

inductive T where
  | e
  | n (l : T) (i : Nat) (c : Bool) (r : T)
def mk : Bool → T → Nat → Bool → T → T
  | false, a, i, c, b => .n a i c b
  | true, a, i, c, b => .n b i c a
theorem mk_flip (d : Bool) (a : T) (i : Nat) (c : Bool) (b : T) : mk (!d) b i c a = mk d a i c b := by cases d <;> rfl
def rt : T → Nat
  | .e => 0
  | .n _ i _ _ => i
def red : T → Bool
  | .e => false
  | .n _ _ c _ => c
def ids : T → List Nat
  | .e => []
  | .n l i _ r => ids l ++ i :: ids r
@[simp] theorem rt_mk (d : Bool) (a : T) (i : Nat) (c : Bool) (b : T) : rt (mk d a i c b) = i := by cases d <;> rfl
@[simp] theorem red_mk (d : Bool) (a : T) (i : Nat) (c : Bool) (b : T) : red (mk d a i c b) = c := by cases d <;> rfl
theorem mem_mk {d : Bool} {a b : T} {i x : Nat} {c : Bool} : x ∈ ids (mk d a i c b) ↔ x = i ∨ x ∈ ids a ∨ x ∈ ids b := by
  cases d <;> simp only [mk, ids, List.mem_append, List.mem_cons] <;> constructor <;> intro h <;> rcases h with h | h | h <;> simp [h]
abbrev Ctx := List (Bool × Nat × Bool × T)
def plug : Ctx → T → T
  | [], t => t
  | (d, p, c, s) :: k, t => plug k (mk d t p c s)
def upOf : Ctx → Nat
  | [] => 0
  | (_, p, _, _) :: _ => p
def rtC : Ctx → Nat → Nat
  | [], h => h
  | (_, p, _, _) :: k, _ => rtC k p
theorem rt_plug : ∀ (k : Ctx) (t : T), rt (plug k t) = rtC k (rt t)
  | [], _ => rfl
  | (d, p, c, s) :: k, t => by simp only [plug, rtC]; rw [rt_plug k]; simp
def pre : Ctx → List Nat
  | [] => []
  | (false, _, _, _) :: k => pre k
  | (true, p, _, s) :: k => pre k ++ (ids s ++ [p])
def post : Ctx → List Nat
  | [] => []
  | (false, p, _, s) :: k => (p :: ids s) ++ post k
  | (true, _, _, _) :: k => post k
theorem ids_plug : ∀ (k : Ctx) (t : T), ids (plug k t) = pre k ++ (ids t ++ post k)
  | [], t => by simp [plug, pre, post]
  | (false, p, c, s) :: k, t => by simp only [plug, pre, post]; rw [ids_plug k]; simp [mk, ids]
  | (true, p, c, s) :: k, t => by simp only [plug, pre, post]; rw [ids_plug k]; simp [mk, ids]
def idC : Ctx → List Nat
  | [] => []
  | (_, p, _, s) :: k => p :: (ids s ++ idC k)
theorem mem_plug {x : Nat} : ∀ {k : Ctx} {t : T}, x ∈ ids (plug k t) ↔ x ∈ ids t ∨ x ∈ idC k
  | [], t => by simp [plug, idC]
  | (d, p, c, s) :: k, t => by
    simp only [plug, idC]
    rw [mem_plug (k := k), mem_mk]
    simp only [List.mem_cons, List.mem_append]
    constructor <;> intro h
    · rcases h with (h | h | h) | h <;> simp [h]
    · rcases h with h | h | h | h <;> simp [h]

/-- How often a node stands in a tree: nodes stand once. -/
def cnt (t : T) (x : Nat) : Nat := (ids t).count x
def cntC (k : Ctx) (x : Nat) : Nat := (idC k).count x
theorem cnt_mk (d : Bool) (a : T) (i : Nat) (c : Bool) (b : T) (x : Nat) : cnt (mk d a i c b) x = (if i = x then 1 else 0) + cnt a x + cnt b x := by
  cases d <;> simp [mk, cnt, ids, List.count_append, List.count_cons] <;> omega
theorem cnt_plug (x : Nat) : ∀ (k : Ctx) (t : T), cnt (plug k t) x = cnt t x + cntC k x
  | [], t => by simp [plug, cntC, idC]
  | (d, p, c, s) :: k, t => by
    simp only [plug]
    rw [cnt_plug x k, cnt_mk]
    simp [cntC, idC, cnt, List.count_cons, List.count_append]
    omega
theorem cnt_pos {t : T} {x : Nat} : x ∈ ids t ↔ 0 < cnt t x := List.count_pos_iff.symm
theorem cntC_pos {t : Ctx} {x : Nat} : x ∈ idC t ↔ 0 < cntC t x := List.count_pos_iff.symm

section
variable (f : Nat → Nd) (len : Nat)
def Sh : T → Nat → Prop
  | .e, _ => True
  | .n l i c r, u => i ≠ 0 ∧ i < len ∧ (f i).k0 = rt l ∧ (f i).k1 = rt r ∧ (f i).up = u ∧ (f i).red = c ∧ Sh l i ∧ Sh r i
def Cx : Ctx → Nat → Prop
  | [], _ => True
  | (d, p, c, s) :: k, h => p ≠ 0 ∧ p < len ∧ kid f p d = h ∧ kid f p (!d) = rt s ∧ (f p).up = upOf k ∧ (f p).red = c ∧ Sh f len s p ∧ Cx k p
end
variable {f g : Nat → Nd} {len : Nat}
theorem sh_mk {d : Bool} {a b : T} {i u : Nat} {c : Bool} : Sh f len (mk d a i c b) u ↔ i ≠ 0 ∧ i < len ∧ kid f i d = rt a ∧ kid f i (!d) = rt b ∧ (f i).up = u ∧ (f i).red = c ∧ Sh f len a i ∧ Sh f len b i := by
  cases d <;> simp only [mk, Sh, kid, Nd.kid, Bool.not_false, Bool.not_true]
  constructor <;> rintro ⟨a, b, c, d, e, f, g, h⟩ <;> exact ⟨a, b, d, c, e, f, h, g⟩
theorem sh_plug : ∀ {k : Ctx} {t : T}, Sh f len (plug k t) 0 ↔ Sh f len t (upOf k) ∧ Cx f len k (rt t)
  | [], t => by simp [plug, upOf, Cx]
  | (d, p, c, s) :: k, t => by
    simp only [plug, upOf, Cx]
    rw [sh_plug (k := k), sh_mk, rt_mk]
    constructor
    · rintro ⟨⟨a, b, c, d, e, f, g, h⟩, i⟩; exact ⟨g, a, b, c, d, e, f, h, i⟩
    · rintro ⟨g, a, b, c, d, e, f, h, i⟩; exact ⟨⟨a, b, c, d, e, f, g, h⟩, i⟩
theorem Sh.frame : ∀ {t : T} {u : Nat}, Sh f len t u → (∀ i ∈ ids t, g i = f i) → Sh g len t u
  | .e, _, _, _ => trivial
  | .n l i c r, u, h, hf => by
    obtain ⟨a, b, c, d, e, f, h1, h2⟩ := h
    have := hf i (by simp [ids])
    refine ⟨a, b, by rw [this]; exact c, by rw [this]; exact d, by rw [this]; exact e, by rw [this]; exact f, h1.frame fun j hj => hf j (by simp [ids, hj]), h2.frame fun j hj => hf j (by simp [ids, hj])⟩
theorem Cx.frame : ∀ {k : Ctx} {h : Nat}, Cx f len k h → (∀ i ∈ idC k, g i = f i) → Cx g len k h
  | [], _, _, _ => trivial
  | (d, p, c, s) :: k, h, hk, hf => by
    obtain ⟨a, b, c, d, e, f, h1, h2⟩ := hk
    have := hf p (by simp [idC])
    refine ⟨a, b, by rw [kid, this]; exact c, by rw [kid, this]; exact d, by rw [this]; exact e, by rw [this]; exact f, h1.frame fun j hj => hf j (by simp [idC, hj]), h2.frame fun j hj => hf j (by simp [idC, hj])⟩
/-- A tree's root has another one above it. -/
theorem Sh.reup {t : T} {u v : Nat} (h : Sh f len t u) (hc : ∀ x, cnt t x ≤ 1) (hr : t ≠ .e → g (rt t) = { f (rt t) with up := v }) (hf : ∀ i ∈ ids t, i ≠ rt t → g i = f i) : Sh g len t v := by
  cases t with
  | e => trivial
  | n l i c r =>
    obtain ⟨a, b, c, d, e, q, h1, h2⟩ := h
    have := hr (by simp)
    simp only [rt] at this hf
    have hi : cnt l i = 0 ∧ cnt r i = 0 := by
      have := hc i
      simp [cnt, ids, List.count_append, List.count_cons] at this ⊢
      constructor <;> omega
    refine ⟨a, b, by rw [this]; exact c, by rw [this]; exact d, by rw [this], by rw [this]; exact q, h1.frame fun j hj => hf j (by simp [ids, hj]) ?_, h2.frame fun j hj => hf j (by simp [ids, hj]) ?_⟩
    · rintro rfl; have := cnt_pos.1 hj; omega
    · rintro rfl; have := cnt_pos.1 hj; omega
theorem Sh.rt_pos {t : T} {u : Nat} (h : Sh f len t u) (hne : t ≠ .e) : rt t ≠ 0 := by
  cases t with
  | e => exact absurd rfl hne
  | n l i c r => exact h.1
theorem Sh.pos : ∀ {t : T} {u : Nat}, Sh f len t u → ∀ i ∈ ids t, i ≠ 0 ∧ i < len
  | .e, _, _, i, hi => by simp [ids] at hi
  | .n l j c r, u, h, i, hi => by
    obtain ⟨a, b, _, _, _, _, h1, h2⟩ := h
    simp only [ids, List.mem_append, List.mem_cons] at hi
    rcases hi with hi | rfl | hi
    · exact h1.pos i hi
    · exact ⟨a, b⟩
    · exact h2.pos i hi
theorem Cx.pos : ∀ {k : Ctx} {h : Nat}, Cx f len k h → ∀ i ∈ idC k, i ≠ 0 ∧ i < len
  | [], _, _, i, hi => by simp [idC] at hi
  | (d, p, c, s) :: k, h, hk, i, hi => by
    obtain ⟨a, b, _, _, _, _, h1, h2⟩ := hk
    simp only [idC, List.mem_cons, List.mem_append] at hi
    rcases hi with rfl | hi | hi
    · exact ⟨a, b⟩
    · exact h1.pos i hi
    · exact h2.pos i hi
theorem rt_mem {t : T} (h : rt t ≠ 0) : rt t ∈ ids t := by
  cases t with
  | e => exact absurd rfl h
  | n l i c r => simp [rt, ids]

/-- The whole tree. -/
structure W (s : Rb) (len : Nat) (t : T) : Prop where
  sh : Sh s.f len t 0
  root : s.root = rt t
  once : ∀ x, cnt t x ≤ 1

/-- Another one hangs in a hole. -/
theorem hang_cx {s : Rb} {k : Ctx} {x h : Nat} (hc : Cx s.f len k x) (hu : (s.f x).up = upOf k) (hx0 : x ≠ 0) (hx : cntC k x = 0) (hh : cntC k h = 0) (h1 : ∀ y, cntC k y ≤ 1) (hr : s.root = rtC k x) :
    Cx (hang s h x).f len k h ∧ (hang s h x).root = rtC k h ∧ (∀ i, i ≠ h → cntC k i = 0 → (hang s h x).f i = s.f i) ∧ (hang s h x).f h = { s.f h with up := upOf k } := by
  cases k with
  | nil =>
    have e : (s.f x).up = 0 := hu
    simp only [hang, e, if_true, setUp, Cx, rtC, upOf, true_and]
    exact ⟨fun i hi _ => fupd_ne hi, fupd_same _ _ _⟩
  | cons fr k =>
    obtain ⟨d, p, c, t⟩ := fr
    obtain ⟨a1, a2, a3, a4, a5, a6, a7, a8⟩ := hc
    have e : (s.f x).up = p := hu
    have hcp : ∀ y, (if p = y then 1 else 0) + cnt t y + cntC k y = cntC ((d, p, c, t) :: k) y := fun y => by
      simp [cntC, idC, cnt, List.count_cons, List.count_append]; omega
    have hp := h1 p
    have hcp1 := hcp p
    rw [if_pos rfl] at hcp1
    have hhp : h ≠ p := by rintro rfl; omega
    have hsd : side s x = d := by
      unfold side
      rw [e]
      cases d with
      | false =>
        have : (s.f p).k0 = x := a3
        simp [this]
      | true =>
        have : (s.f p).k0 = rt t := a4
        rw [this]
        have : rt t ≠ x := by
          rintro rfl
          have h1 := cnt_pos.1 (rt_mem hx0)
          have h2 := hcp (rt t)
          omega
        simp [this]
    simp only [hang, e, if_neg a1, hsd, setUp, setK, rtC, upOf]
    refine ⟨⟨a1, a2, ?_, ?_, ?_, ?_, ?_, ?_⟩, ?_, fun i hi hk => ?_, ?_⟩
    · rw [kid, fupd_ne hhp.symm, fupd_same, setK_kid]
    · rw [kid, fupd_ne hhp.symm, fupd_same, setK_kid']; exact a4
    · rw [fupd_ne hhp.symm, fupd_same, setK_up]; exact a5
    · rw [fupd_ne hhp.symm, fupd_same, setK_red]; exact a6
    · refine a7.frame fun i hi => ?_
      have := cnt_pos.1 hi
      rw [fupd_ne, fupd_ne]
      · rintro rfl; omega
      · rintro rfl; have := hcp i; omega
    · refine a8.frame fun i hi => ?_
      have := cntC_pos.1 hi
      rw [fupd_ne, fupd_ne]
      · rintro rfl; omega
      · rintro rfl; have := hcp i; omega
    · rw [hr]; rfl
    · rw [fupd_ne hi, fupd_ne]
      rintro rfl
      rw [← hcp i, if_pos rfl] at hk; omega
    · rw [fupd_same, fupd_ne hhp]

theorem turn_w {s : Rb} {k : Ctx} {d cx cy : Bool} {a b c : T} {x y : Nat} (w : W s len (plug k (mk d a x cx (mk d b y cy c)))) :
    W (turn s x d) len (plug k (mk d (mk d a x cx b) y cy c)) := by
  obtain ⟨hs, hr, h1⟩ := w
  obtain ⟨ht, hk⟩ := sh_plug.1 hs
  obtain ⟨x0, xl, xa, xy, xu, xr, sa, sy⟩ := sh_mk.1 ht
  obtain ⟨y0, yl, yb, yc, yu, yr, sb, sc⟩ := sh_mk.1 sy
  rw [rt_mk] at xy hk
  rw [rt_plug, rt_mk] at hr
  have hc : ∀ z, (if x = z then 1 else 0) + cnt a z + ((if y = z then 1 else 0) + cnt b z + cnt c z) + cntC k z ≤ 1 := fun z => by
    have := h1 z
    rw [cnt_plug, cnt_mk, cnt_mk] at this
    exact this
  have cx0 := hc x
  have cy0 := hc y
  rw [if_pos rfl] at cx0
  simp only [if_true] at cy0
  have hxy : x ≠ y := by rintro rfl; rw [if_pos rfl] at cx0; omega
  obtain ⟨q1, q2, q3, q4⟩ := hang_cx (s := s) (h := y) hk xu x0 (by omega) (by omega) (fun z => by have := hc z; omega) hr
  have hb : rt b ≠ 0 → rt b ≠ x ∧ rt b ≠ y ∧ cntC k (rt b) = 0 := fun hb => by
    have h2 := cnt_pos.1 (rt_mem hb)
    have h3 := hc (rt b)
    refine ⟨?_, ?_, by omega⟩
    · rintro e; rw [e] at h2; omega
    · rintro e; rw [e] at h2; omega
  have hi : kid s.f (kid s.f x (!d)) d = rt b := by rw [xy]; exact yb
  have key : ∃ g : Nat → Nd, (turn s x d).f = g ∧ (turn s x d).root = rtC k y ∧ g x = { (s.f x).setK (!d) (rt b) with up := y } ∧ g y = { (s.f y).setK d x with up := upOf k } ∧ (rt b ≠ 0 → g (rt b) = { s.f (rt b) with up := x }) ∧
      (∀ i, i ≠ x → i ≠ y → i ≠ rt b → g i = (hang s y x).f i) := by
    refine ⟨_, rfl, ?_, ?_, ?_, ?_, ?_⟩
    · simp only [turn, xy, yb, setUp, setK]
      split <;> exact q2
    · simp only [turn, xy, yb, setUp, setK]
      rw [fupd_same, fupd_ne hxy]
      split
      · simp only [fupd_same]; rw [q3 x hxy (by omega)]
      · rename_i h
        dsimp only
        rw [fupd_ne (Ne.symm (hb h).1), fupd_same, q3 x hxy (by omega)]
    · simp only [turn, xy, yb, setUp, setK]
      rw [fupd_ne hxy.symm, fupd_same]
      split
      · dsimp only; rw [fupd_ne hxy.symm, q4]; cases d <;> rfl
      · rename_i h
        dsimp only
        rw [fupd_ne (Ne.symm (hb h).2.1), fupd_ne hxy.symm, q4]; cases d <;> rfl
    · intro h
      obtain ⟨b1, b2, b3⟩ := hb h
      simp only [turn, xy, yb, setUp, setK]
      rw [fupd_ne b1, fupd_ne b2, if_neg h]
      dsimp only
      rw [fupd_same, fupd_ne b1, q3 _ b2 b3]
    · intro i i1 i2 i3
      simp only [turn, xy, yb, setUp, setK]
      rw [fupd_ne i1, fupd_ne i2]
      split
      · dsimp only; rw [fupd_ne i1]
      · dsimp only; rw [fupd_ne i3, fupd_ne i1]
  obtain ⟨g, eg, er, gx, gy, gb, gi⟩ := key
  have same : ∀ i, i ≠ x → i ≠ y → i ≠ rt b → cntC k i = 0 → g i = s.f i := fun i i1 i2 i3 i4 => by rw [gi i i1 i2 i3, q3 i i2 i4]
  have notb : ∀ z, cnt b z = 0 → z ≠ 0 → z ≠ rt b := fun z h0 h1 e => by
    have := cnt_pos.1 (rt_mem (t := b) (by rw [← e]; exact h1))
    rw [← e] at this; omega
  have pa := sa.pos
  have pc := sc.pos
  have pb := sb.pos
  refine ⟨sh_plug.2 ⟨?_, ?_⟩, ?_, fun z => ?_⟩
  · rw [eg, sh_mk]
    refine ⟨y0, yl, ?_, ?_, ?_, ?_, ?_, ?_⟩
    · rw [kid, gy, kid_up, setK_kid, rt_mk]
    · rw [kid, gy, kid_up, setK_kid']; exact yc
    · rw [gy]
    · rw [gy]; show ((s.f y).setK d x).red = cy; rw [setK_red]; exact yr
    · rw [sh_mk]
      refine ⟨x0, xl, ?_, ?_, ?_, ?_, ?_, ?_⟩
      · rw [kid, gx, kid_up, setK_kid'']; exact xa
      · rw [kid, gx, kid_up, setK_kid]
      · rw [gx]
      · rw [gx]; show ((s.f x).setK (!d) (rt b)).red = cx; rw [setK_red]; exact xr
      · refine sa.frame fun i hi => ?_
        have h2 := cnt_pos.1 hi
        have h3 := hc i
        have h4 := (pa i hi).1
        exact same i (by rintro rfl; omega) (by rintro rfl; omega) (notb i (by omega) h4) (by omega)
      · refine sb.reup (fun z => by have := hc z; omega) (fun hne => gb (sb.rt_pos hne)) fun i hi hir => ?_
        have h2 := cnt_pos.1 hi
        have h3 := hc i
        exact same i (by rintro rfl; omega) (by rintro rfl; omega) hir (by omega)
    · refine sc.frame fun i hi => ?_
      have h2 := cnt_pos.1 hi
      have h3 := hc i
      have h4 := (pc i hi).1
      exact same i (by rintro rfl; omega) (by rintro rfl; omega) (notb i (by omega) h4) (by omega)
  · rw [eg, rt_mk]
    refine q1.frame fun i hi => ?_
    have h2 := cntC_pos.1 hi
    have h3 := hc i
    have h4 := (hk.pos i hi).1
    exact gi i (by rintro rfl; omega) (by rintro rfl; omega) (notb i (by omega) h4)
  · rw [er, rt_plug, rt_mk]
  · have := hc z
    rw [cnt_plug, cnt_mk, cnt_mk]; omega

theorem red_w {s : Rb} {k : Ctx} {d cx : Bool} {a b : T} {x : Nat} (w : W s len (plug k (mk d a x cx b))) (c : Bool) : W (setRed s x c) len (plug k (mk d a x c b)) := by
  obtain ⟨hs, hr, h1⟩ := w
  obtain ⟨ht, hk⟩ := sh_plug.1 hs
  obtain ⟨x0, xl, xa, xb, xu, xr, sa, sb⟩ := sh_mk.1 ht
  rw [rt_mk] at hk
  have hc : ∀ z, (if x = z then 1 else 0) + cnt a z + cnt b z + cntC k z ≤ 1 := fun z => by
    have := h1 z
    rw [cnt_plug, cnt_mk] at this
    exact this
  have cx0 := hc x
  rw [if_pos rfl] at cx0
  refine ⟨sh_plug.2 ⟨sh_mk.2 ⟨x0, xl, ?_, ?_, ?_, ?_, ?_, ?_⟩, ?_⟩, ?_, fun z => ?_⟩
  · simp only [setRed, kid]; rw [fupd_same, kid_red]; exact xa
  · simp only [setRed, kid]; rw [fupd_same, kid_red]; exact xb
  · simp only [setRed]; rw [fupd_same]; exact xu
  · simp only [setRed]; rw [fupd_same]
  · exact sa.frame fun i hi => fupd_ne (by rintro rfl; have := cnt_pos.1 hi; omega)
  · exact sb.frame fun i hi => fupd_ne (by rintro rfl; have := cnt_pos.1 hi; omega)
  · rw [rt_mk]; exact hk.frame fun i hi => fupd_ne (by rintro rfl; have := cntC_pos.1 hi; omega)
  · show s.root = _; rw [hr, rt_plug, rt_plug, rt_mk, rt_mk]
  · rw [cnt_plug, cnt_mk]; exact hc z
/-- What a whole tree says of one of its nodes. -/
structure At (s : Rb) (len : Nat) (k : Ctx) (d : Bool) (a : T) (x : Nat) (cx : Bool) (b : T) : Prop where
  ne : x ≠ 0
  lt : x < len
  kd : kid s.f x d = rt a
  kn : kid s.f x (!d) = rt b
  up : (s.f x).up = upOf k
  rd : (s.f x).red = cx
theorem at_w {s : Rb} {k : Ctx} {d cx : Bool} {a b : T} {x : Nat} (w : W s len (plug k (mk d a x cx b))) : At s len k d a x cx b := by
  obtain ⟨⟨x0, xl, xa, xb, xu, xr, sa, sb⟩, hk⟩ := (sh_plug.1 w.sh).imp_left sh_mk.1
  exact ⟨x0, xl, xa, xb, xu, xr⟩
end Go.Proofs.Ytjahkgfihdngkaa.Ev.Rb
