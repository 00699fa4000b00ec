/- This text of a proof shows: how a red-black tree in an array settles behind a new node, and is lifted behind one that went. -/
import Derived.Test.YtjahkgfihdngkaaRb
set_option linter.unusedVariables false
set_option linter.unusedSimpArgs false
set_option linter.constructorNameAsVariable false
namespace Go.Proofs.Ytjahkgfihdngkaa.Ev.Rb
/-- As many black ones on each way, no red one below a red one. -/
def BH : T → Nat → Prop
  | .e, h => h = 0
  | .n l _ true r, h => red l = false ∧ red r = false ∧ BH l h ∧ BH r h
  | .n l _ false r, h => ∃ k, h = k + 1 ∧ BH l k ∧ BH r k
theorem bh_t {d : Bool} {a b : T} {i h : Nat} : BH (mk d a i true b) h ↔ red a = false ∧ red b = false ∧ BH a h ∧ BH b h := by
  cases d
  · rfl
  · constructor <;> rintro ⟨h1, h2, h3, h4⟩ <;> exact ⟨h2, h1, h4, h3⟩
theorem bh_f {d : Bool} {a b : T} {i h : Nat} : BH (mk d a i false b) h ↔ ∃ k, h = k + 1 ∧ BH a k ∧ BH b k := by
  cases d
  · rfl
  · constructor <;> rintro ⟨k, h2, h3, h4⟩ <;> exact ⟨k, h2, h4, h3⟩
def topB : Ctx → Prop
  | (_, _, false, _) :: _ => True
  | _ => False
/-- A hole into which a tree of h black ones fits. -/
def CB : Ctx → Nat → Prop
  | [], _ => True
  | (_, _, true, s) :: k, h => red s = false ∧ BH s h ∧ topB k ∧ CB k h
  | (_, _, false, s) :: k, h => BH s h ∧ CB k (h + 1)
/-- A whole red-black tree. -/
def Ok (t : T) : Prop := red t = false ∧ ∃ h, BH t h
theorem ok_plug : ∀ {k : Ctx} {t : T}, Ok (plug k t) ↔ ∃ h, BH t h ∧ CB k h ∧ (red t = true → topB k)
  | [], t => by
    simp only [plug, Ok, CB, topB, true_and]
    constructor
    · rintro ⟨h1, h, h2⟩; exact ⟨h, h2, by rw [h1]; simp⟩
    · rintro ⟨h, h2, h3⟩; exact ⟨by cases hr : red t; rfl; exact (h3 hr).elim, h, h2⟩
  | (d, p, true, s) :: k, t => by
    simp only [plug, CB, topB]
    rw [ok_plug (k := k)]
    constructor
    · rintro ⟨h, h1, h2, h3⟩
      obtain ⟨a, b, c, e⟩ := bh_t.1 h1
      exact ⟨h, c, ⟨b, e, h3 (by simp), h2⟩, by rw [a]; simp⟩
    · rintro ⟨h, h1, ⟨h2, h3, h4, h5⟩, h6⟩
      refine ⟨h, bh_t.2 ⟨by cases hr : red t; rfl; exact (h6 hr).elim, h2, h1, h3⟩, h5, fun _ => h4⟩
  | (d, p, false, s) :: k, t => by
    simp only [plug, CB, topB]
    rw [ok_plug (k := k)]
    constructor
    · rintro ⟨h, h1, h2, h3⟩
      obtain ⟨j, rfl, c, e⟩ := bh_f.1 h1
      exact ⟨j, c, ⟨e, h2⟩, fun _ => trivial⟩
    · rintro ⟨h, h1, ⟨h2, h3⟩, _⟩
      exact ⟨h + 1, bh_f.2 ⟨h, rfl, h1, h2⟩, h3, by simp⟩

def settle1 (s : Rb) (z : Nat) : Rb × Nat :=
  let p := (s.f z).up
  let g := (s.f p).up
  let d := side s p
  let u := kid s.f g (!d)
  if (s.f u).red = true then (setRed (setRed (setRed s p false) u false) g true, g)
  else
    let q : Rb × Nat × Nat := if side s z = d then (s, z, p) else (turn s p d, p, ((turn s p d).f p).up)
    (turn (setRed (setRed q.1 q.2.2 false) g true) g (!d), q.2.1)
def settleF : Nat → Rb → Nat → Option Rb
  | 0, _, _ => none
  | k + 1, s, z => if (s.f (s.f z).up).red = true then settleF k (settle1 s z).1 (settle1 s z).2 else some (setRed s s.root false)

theorem mk_all (d : Bool) (t : T) (h : t ≠ .e) : ∃ a i c b, t = mk d a i c b := by
  cases t with
  | e => exact absurd rfl h
  | n l i c r => cases d; exact ⟨l, i, c, r, rfl⟩; exact ⟨r, i, c, l, rfl⟩
theorem ids_mk (d : Bool) (a : T) (i : Nat) (c : Bool) (b : T) : ids (mk d a i c b) = if d then ids b ++ i :: ids a else ids a ++ i :: ids b := by cases d <;> rfl
theorem ids_turn (d cx cy cx' cy' : Bool) (a b c : T) (x y : Nat) : ids (mk d (mk d a x cx b) y cy c) = ids (mk d a x cx' (mk d b y cy' c)) := by cases d <;> simp [ids_mk]
theorem ids_red (d c c' : Bool) (a b : T) (x : Nat) : ids (mk d a x c b) = ids (mk d a x c' b) := by cases d <;> rfl
theorem ids_plug_congr {k : Ctx} {t t' : T} (h : ids t = ids t') : ids (plug k t) = ids (plug k t') := by rw [ids_plug, ids_plug, h]
variable {len : Nat}
/-- On which side of the one above it a node is. -/
theorem side_w {s : Rb} {k : Ctx} {d cp : Bool} {t u : T} {p : Nat} (w : W s len (plug ((d, p, cp, u) :: k) t)) (ht : rt t ≠ 0) : side s (rt t) = d := by
  have hc := w.once (rt t)
  rw [cnt_plug] at hc
  have h1 := cnt_pos.1 (rt_mem ht)
  have ha := at_w (k := k) (d := d) w
  have hu : (s.f (rt t)).up = p := by
    cases t with
    | e => exact absurd rfl ht
    | n l i c r => exact (at_w (k := (d, p, cp, u) :: k) (d := false) (a := l) (x := i) (cx := c) (b := r) w).up
  unfold side
  rw [hu]
  cases d with
  | false =>
    have : (s.f p).k0 = rt t := ha.kd
    simp [this]
  | true =>
    have : (s.f p).k0 = rt u := ha.kn
    rw [this]
    have : rt u ≠ rt t := by
      intro e
      have h2 := cnt_pos.1 (rt_mem (t := u) (by rw [e]; exact ht))
      rw [e] at h2
      simp [cntC, idC, List.count_cons, List.count_append] at hc
      unfold cnt at hc h1 h2
      omega
    simp [this]
/-- The root is made black. -/
theorem black_w {s : Rb} {t : T} (w : W s len t) (hne : t ≠ .e) : ∃ t', W (setRed s s.root false) len t' ∧ ids t' = ids t ∧ red t' = false ∧ (∀ h, red t = true → BH t h → BH t' (h + 1)) ∧ (red t = false → t' = t) := by
  obtain ⟨a, i, c, b, rfl⟩ := mk_all false t hne
  have hr : s.root = i := by rw [w.root]; simp
  refine ⟨mk false a i false b, by rw [hr]; exact red_w (k := []) w false, ids_red _ _ _ _ _ _, rfl, fun h hr hb => ?_, fun h => ?_⟩
  · simp at hr; subst hr
    obtain ⟨_, _, h1, h2⟩ := bh_t.1 hb
    exact bh_f.2 ⟨h, rfl, h1, h2⟩
  · simp at h; subst h; rfl

theorem rp {β : Type} (g : Nd → β) {f : Nat → Nd} {i : Nat} {x : Nd} (h : g x = g (f i)) (j : Nat) : g (fupd f i x j) = g (f j) := by
  simp only [fupd]
  split
  · rename_i e; rw [h, e]
  · rfl
theorem hang_R (s : Rb) (x z i : Nat) : ((hang s x z).f i).red = (s.f i).red := by
  simp only [hang, setUp]
  rw [rp (fun x => x.red) (by rfl)]
  split
  · rfl
  · simp only [setK]; exact rp (fun x => x.red) (setK_red _ _ _) _
theorem turn_R (s : Rb) (x : Nat) (d : Bool) (i : Nat) : ((turn s x d).f i).red = (s.f i).red := by
  unfold turn; dsimp only
  simp only [setUp, setK]
  rw [rp (fun x => x.red) (by rfl), rp (fun x => x.red) (setK_red _ _ _)]
  split
  · dsimp only; rw [rp (fun x => x.red) (setK_red _ _ _), hang_R]
  · dsimp only; rw [rp (fun x => x.red) (by rfl), rp (fun x => x.red) (setK_red _ _ _), hang_R]
theorem black_0 {s : Rb} {i : Nat} (h : (s.f 0).red = false) : ((setRed s i false).f 0).red = false := by
  simp only [setRed, fupd]
  split
  · rfl
  · exact h
theorem redn_0 {s : Rb} {i : Nat} {c : Bool} (hi : i ≠ 0) : ((setRed s i c).f 0).red = (s.f 0).red := by
  simp only [setRed]; rw [fupd_ne hi.symm]
/-- A red node settles. -/
theorem settle_w : ∀ (n : Nat) {s : Rb} {k : Ctx} {t : T} {z h : Nat}, k.length ≤ n → (s.f 0).red = false → W s len (plug k t) → rt t = z → red t = true → BH t h → CB k h →
    ∃ m s' t', settleF m s z = some s' ∧ W s' len t' ∧ ids t' = ids (plug k t) ∧ Ok t' ∧ (s'.f 0).red = false := by
  intro n
  induction n with
  | zero =>
    intro s k t z h hk h0 w hz hr hb hc
    have hk' : k = [] := List.length_eq_zero_iff.1 (by omega)
    subst hk'
    have hne : t ≠ .e := by rintro rfl; simp [red] at hr
    obtain ⟨a, i, c, b, rfl⟩ := mk_all false t hne
    have hu := (at_w (k := []) (d := false) w).up
    obtain ⟨t', w', e1, e2, e3, _⟩ := black_w w hne
    simp at hz; subst hz
    exact ⟨1, _, t', by simp only [settleF]; rw [hu]; simp [upOf, h0], w', e1, ⟨e2, _, e3 h hr hb⟩, black_0 h0⟩
  | succ n ih =>
    intro s k t z h hk h0 w hz hr hb hc
    have hne : t ≠ .e := by rintro rfl; simp [red] at hr
    obtain ⟨a, i, c, b, rfl⟩ := mk_all false t hne
    simp at hr hz; subst hr; subst hz
    match k, hk, w, hc with
    | [], _, w, hc => exact ih (k := []) (by simp) h0 w (by simp) (by simp) hb hc
    | (d1, p, false, q) :: k, _, w, hc =>
      have hu := (at_w (k := (d1, p, false, q) :: k) (d := false) w).up
      have hp := at_w (k := k) (d := d1) w
      have hok : Ok (plug ((d1, p, false, q) :: k) (mk false a i true b)) := ok_plug.2 ⟨h, hb, hc, fun _ => trivial⟩
      have hpl : plug ((d1, p, false, q) :: k) (mk false a i true b) ≠ .e := by
        intro e
        have := (mem_plug (x := i) (k := (d1, p, false, q) :: k) (t := mk false a i true b)).2 (.inl (mem_mk.2 (.inl rfl)))
        rw [e] at this; simp [ids] at this
      obtain ⟨t', w', e1, e2, e3, e4⟩ := black_w w hpl
      have e5 := e4 hok.1
      subst e5
      exact ⟨1, _, _, by simp only [settleF]; rw [hu]; simp [upOf, hp.rd], w', rfl, hok, black_0 h0⟩
    | (d1, p, true, q) :: k, hk, w, hc =>
      obtain ⟨c1, c2, c3, c4⟩ := hc
      match k, hk, w, c3, c4 with
      | (d2, g, false, u) :: k, hk, w, _, c4 =>
        obtain ⟨c5, c6⟩ := c4
        have hu : (s.f i).up = p := (at_w (k := (d1, p, true, q) :: (d2, g, false, u) :: k) (d := false) w).up
        have hp := at_w (k := (d2, g, false, u) :: k) (d := d1) w
        have hg := at_w (k := k) (d := d2) w
        have hpu : (s.f p).up = g := hp.up
        have s2 : side s p = d2 := by
          have := side_w (k := k) (d := d2) (p := g) (cp := false) (u := u) (t := mk d1 (mk false a i true b) p true q) w (by simpa using hp.ne)
          simpa using this
        have s1 : side s i = d1 := by
          have := side_w (k := (d2, g, false, u) :: k) (d := d1) (p := p) (cp := true) (u := q) (t := mk false a i true b) w (by
            simpa using (at_w (k := (d1, p, true, q) :: (d2, g, false, u) :: k) (d := false) w).ne)
          simpa using this
        have hun : kid s.f g (!d2) = rt u := hg.kn
        have hgo : ∀ m, settleF (m + 1) s i = settleF m (settle1 s i).1 (settle1 s i).2 := fun m => by
          simp only [settleF]; rw [hu, if_pos hp.rd]
        by_cases hru : red u = true
        · have hune : u ≠ .e := by rintro rfl; simp [red] at hru
          obtain ⟨ua, ui, uc, ub, rfl⟩ := mk_all false u hune
          simp at hru hun; subst hru
          obtain ⟨b1, b2, b3, b4⟩ := bh_t.1 c5
          have w1 := red_w (k := (d2, g, false, mk false ua ui true ub) :: k) (d := d1) w false
          have w2 : W (setRed s p false) len (plug ((!d2, g, false, mk d1 (mk false a i true b) p false q) :: k) (mk false ua ui true ub)) := by
            simp only [plug] at w1 ⊢; rw [mk_flip]; exact w1
          have w3 := red_w (k := (!d2, g, false, mk d1 (mk false a i true b) p false q) :: k) (d := false) w2 false
          have w4 := red_w (k := k) (d := !d2) w3 true
          have hur : (s.f ui).red = true := by
            have w0 : W s len (plug ((!d2, g, false, mk d1 (mk false a i true b) p true q) :: k) (mk false ua ui true ub)) := by
              simp only [plug] at w ⊢; rw [mk_flip]; exact w
            exact (at_w (k := (!d2, g, false, _) :: k) (d := false) w0).rd
          have hst : settle1 s i = (setRed (setRed (setRed s p false) ui false) g true, g) := by
            simp only [settle1, hu, hpu, s2, hun]; rw [if_pos hur]
          have h00 : ((setRed (setRed (setRed s p false) ui false) g true).f 0).red = false := by
            simp only [setRed]
            rw [fupd_ne (Ne.symm hg.ne)]
            simp only [fupd]
            split
            · rfl
            · split
              · rfl
              · exact h0
          obtain ⟨m, s', t', e1, e2, e3, e4, e5⟩ := ih (k := k) (h := h + 1) (z := g) (by simp at hk ⊢; omega) h00 w4 (by simp) (by simp) (bh_t.2 ⟨rfl, by simp, bh_f.2 ⟨h, rfl, b3, b4⟩, bh_f.2 ⟨h, rfl, hb, c2⟩⟩) c6
          refine ⟨m + 1, s', t', by rw [hgo, hst]; exact e1, e2, ?_, e4, e5⟩
          rw [e3]
          simp only [plug]
          rw [mk_flip]
          exact ids_plug_congr (by cases d2 <;> cases d1 <;> simp [ids_mk, mk, ids])
        · have hru' : red u = false := by simpa using hru
          have hur : ¬ (s.f (rt u)).red = true := by
            cases u with
            | e => simp [rt, h0]
            | n ul ui uc ur =>
              have w0 : W s len (plug ((!d2, g, false, mk d1 (mk false a i true b) p true q) :: k) (mk false ul ui uc ur)) := by
                simp only [plug] at w ⊢; rw [mk_flip]; exact w
              have := (at_w (k := (!d2, g, false, _) :: k) (d := false) w0).rd
              simp only [rt]; rw [this]; exact hru
          -- z and p are on one side: turned at g
          have hg0 := hg.ne
          have fin : ∀ (s : Rb) (x y : T) (j r : Nat) (v : T), (s.f 0).red = false → W s len (plug k (mk d2 (mk d2 (mk d2 x j true y) r true v) g false u)) → BH x h → BH y h → BH v h → red x = false → red y = false →  red v = false →
              ∃ m s' t', settleF m (turn (setRed (setRed s r false) g true) g (!d2)) j = some s' ∧ W s' len t' ∧ ids t' = ids (plug k (mk d2 (mk d2 (mk d2 x j true y) r true v) g false u)) ∧ Ok t' ∧ (s'.f 0).red = false := by
            intro s x y j r v h0 w hx hy hv rx ry rv
            have w1 := red_w (k := (d2, g, false, u) :: k) (d := d2) w false
            have w2 := red_w (k := k) (d := d2) w1 true
            rw [← mk_flip, ← mk_flip d2 (mk d2 x j true y)] at w2
            have w3 := turn_w w2
            have hb2 : BH (mk (!d2) (mk (!d2) u g true v) r false (mk d2 x j true y)) (h + 1) := bh_f.2 ⟨h, rfl, bh_t.2 ⟨hru', rv, c5, hv⟩, bh_t.2 ⟨rx, ry, hx, hy⟩⟩
            have hok : Ok (plug k (mk (!d2) (mk (!d2) u g true v) r false (mk d2 x j true y))) := ok_plug.2 ⟨h + 1, hb2, c6, by simp⟩
            have w4 : W (turn (setRed (setRed s r false) g true) g !d2) len (plug ((d2, r, false, mk (!d2) u g true v) :: k) (mk d2 x j true y)) := by
              simp only [plug]; rw [← mk_flip]; exact w3
            have hj := (at_w (k := (d2, r, false, mk (!d2) u g true v) :: k) (d := d2) w4).up
            have hr := at_w (k := k) (d := !d2) w3
            obtain ⟨t', w', _, _, _, f4⟩ := black_w w3 (by
              intro e
              have := (mem_plug (x := r) (k := k) (t := mk (!d2) (mk (!d2) u g true v) r false (mk d2 x j true y))).2 (.inl (mem_mk.2 (.inl rfl)))
              rw [e] at this; simp [ids] at this)
            have f5 := f4 hok.1
            subst f5
            refine ⟨1, _, _, ?_, w', ?_, hok, black_0 (by rw [turn_R, redn_0 hg0]; exact black_0 h0)⟩
            · simp only [settleF]; rw [hj]; simp [upOf, hr.rd]
            · exact ids_plug_congr (by cases d2 <;> simp [ids_mk])
          obtain ⟨b1, b2, b3, b4⟩ := bh_t.1 hb
          by_cases hd : d1 = d2
          · subst hd
            have w0 : W s len (plug k (mk d1 (mk d1 (mk d1 (bif d1 then b else a) i true (bif d1 then a else b)) p true q) g false u)) := by cases d1 <;> exact w
            obtain ⟨m, s', t', e1, e2, e3, e4, e5⟩ := fin s _ _ _ _ _ h0 w0 (by cases d1 <;> assumption) (by cases d1 <;> assumption) c2 (by cases d1 <;> assumption) (by cases d1 <;> assumption) c1
            refine ⟨m + 1, s', t', ?_, e2, ?_, e4, e5⟩
            · rw [hgo]
              have hst : settle1 s i = (turn (setRed (setRed s p false) g true) g (!d1), i) := by
                simp only [settle1, hu, hpu, s2, hun, s1]; rw [if_neg hur]; simp
              rw [hst]; exact e1
            · rw [e3]; cases d1 <;> rfl
          · have hd' : d1 = !d2 := by cases d1 <;> cases d2 <;> simp_all
            subst hd'
            -- the one between is turned up
            have w0 : W s len (plug ((d2, g, false, u) :: k) (mk d2 q p true (mk d2 (bif d2 then b else a) i true (bif d2 then a else b)))) := by cases d2 <;> exact w
            have w1 := turn_w w0
            have hp1 := at_w (k := (d2, i, true, (bif d2 then a else b)) :: (d2, g, false, u) :: k) (d := d2) w1
            obtain ⟨m, s', t', e1, e2, e3, e4, e5⟩ := fin (turn s p d2) _ _ _ _ _ (by rw [turn_R]; exact h0) w1 c2 (by cases d2 <;> assumption) (by cases d2 <;> assumption) c1 (by cases d2 <;> assumption) (by cases d2 <;> assumption)
            refine ⟨m + 1, s', t', ?_, e2, ?_, e4, e5⟩
            · rw [hgo]
              have hst : settle1 s i = (turn (setRed (setRed (turn s p d2) i false) g true) g (!d2), p) := by
                have hup : ((turn s p d2).f p).up = i := hp1.up
                simp only [settle1, hu, hpu, s2, hun, s1]; rw [if_neg hur]
                simp [hup]
              rw [hst]; exact e1
            · rw [e3]
              simp only [plug]
              exact ids_plug_congr (by cases d2 <;> simp [ids_mk, mk, ids])
end Go.Proofs.Ytjahkgfihdngkaa.Ev.Rb
