/- This text of a proof shows: how a red-black tree in an array is lifted where a way lacks a black node. -/
import Derived.Test.YtjahkgfihdngkaaRb2
set_option linter.unusedVariables false
set_option linter.unusedSimpArgs false
set_option linter.constructorNameAsVariable false
namespace Go.Proofs.Ytjahkgfihdngkaa.Ev.Rb
def lift2 (s : Rb) (p w : Nat) (d : Bool) : Rb × Nat :=
  if (s.f (kid s.f w false)).red = false ∧ (s.f (kid s.f w true)).red = false then (setRed s w true, p)
  else
    let q : Rb × Nat := if (s.f (kid s.f w (!d))).red = true then (s, w)
      else (turn (setRed (setRed s (kid s.f w d) false) w true) w (!d), kid (turn (setRed (setRed s (kid s.f w d) false) w true) w (!d)).f p (!d))
    let s1 := setRed (setRed q.1 q.2 (q.1.f p).red) p false
    let s2 := turn (setRed s1 (kid s1.f q.2 (!d)) false) p d
    (s2, s2.root)
def lift1 (s : Rb) (x : Nat) : Rb × Nat :=
  let p := (s.f x).up
  let d := !decide ((s.f p).k0 = x)
  let w := kid s.f p (!d)
  if (s.f w).red = true then
    let s1 := turn (setRed (setRed s w false) p true) p d
    lift2 s1 p (kid s1.f p (!d)) d
  else lift2 s p w d
def liftF : Nat → Rb → Nat → Option Rb
  | 0, _, _ => none
  | k + 1, s, x => if x ≠ s.root ∧ (s.f x).red = false then liftF k (lift1 s x).1 (lift1 s x).2 else some (setRed s x false)
variable {len : Nat}
theorem red_at {s : Rb} {k : Ctx} {t : T} (w : W s len (plug k t)) (h0 : (s.f 0).red = false) : (s.f (rt t)).red = red t := by
  cases t with
  | e => exact h0
  | n l i c r => exact (at_w (k := k) (d := false) w).rd
theorem turn_0 {s : Rb} {x : Nat} {d : Bool} (hx : x ≠ 0) (hy : kid s.f x (!d) ≠ 0) : (turn s x d).f 0 = s.f 0 := by
  simp only [turn, setUp, setK]
  rw [fupd_ne hx.symm, fupd_ne hy.symm]
  have hh : (hang s (kid s.f x (!d)) x).f 0 = s.f 0 := by
    simp only [hang, setUp, setK]
    rw [fupd_ne hy.symm]
    split
    · rfl
    · rename_i h; exact fupd_ne (Ne.symm h)
  split
  · dsimp only; rw [fupd_ne hx.symm, hh]
  · rename_i h; dsimp only; rw [fupd_ne (Ne.symm h), fupd_ne hx.symm, hh]
theorem red_0 {s : Rb} {x : Nat} {c : Bool} (hx : x ≠ 0) : (setRed s x c).f 0 = s.f 0 := fupd_ne hx.symm
theorem ne_plug {k : Ctx} {t : T} (h : t ≠ .e) : plug k t ≠ .e := by
  obtain ⟨a, i, c, b, rfl⟩ := mk_all false t h
  intro e
  have := (mem_plug (x := i) (k := k) (t := mk false a i c b)).2 (.inl (mem_mk.2 (.inl rfl)))
  rw [e] at this; simp [ids] at this
theorem ne_mk (d : Bool) (a : T) (i : Nat) (c : Bool) (b : T) : mk d a i c b ≠ .e := by cases d <;> simp [mk]
theorem of_red {s : Rb} {k : Ctx} {d cx : Bool} {a b t : T} {x : Nat} (c : Bool) (w : W s len t) (h : t = plug k (mk d a x cx b)) {t' : T} (h' : plug k (mk d a x c b) = t') : W (setRed s x c) len t' := by
  subst h; subst h'; exact red_w w c
theorem flip3 (k : Ctx) (d cp cw : Bool) (t a b : T) (p w : Nat) : plug k (mk d t p cp (mk d a w cw b)) = plug ((!d, p, cp, t) :: k) (mk d a w cw b) := by simp only [plug]; rw [mk_flip]

theorem lift2_w {s : Rb} {k : Ctx} {d cp : Bool} {t a b : T} {p w h : Nat} (hw : W s len (plug k (mk d t p cp (mk d a w false b)))) (h0 : (s.f 0).red = false) (ha : BH a h) (hb : BH b h) (ht : BH t h) (rt' : red t = false)
    (hk : cp = true → topB k) (hc : CB k (if cp then h + 1 else h + 2)) :
    (red a = false ∧ red b = false → lift2 s p w d = (setRed s w true, p) ∧ W (setRed s w true) len (plug k (mk d t p cp (mk d a w true b))) ∧ (setRed s w true).f 0 = s.f 0) ∧
    (¬ (red a = false ∧ red b = false) → ∃ s' t', lift2 s p w d = (s', s'.root) ∧ W s' len t' ∧ ids t' = ids (plug k (mk d t p cp (mk d a w false b))) ∧ Ok t' ∧ t' ≠ .e) := by
  have w0 : W s len (plug ((!d, p, cp, t) :: k) (mk d a w false b)) := by rw [← flip3]; exact hw
  have aw := at_w w0
  have ap := at_w hw
  have ra : (s.f (kid s.f w d)).red = red a := by
    rw [aw.kd]
    exact red_at (k := (d, w, false, b) :: (!d, p, cp, t) :: k) (by simpa only [plug] using w0) h0
  have rb : (s.f (kid s.f w (!d))).red = red b := by
    rw [aw.kn]
    refine red_at (len := len) (k := (!d, w, false, a) :: (!d, p, cp, t) :: k) ?_ h0
    simp only [plug] at w0 ⊢
    rw [mk_flip d a]; exact w0
  have cond : ((s.f (kid s.f w false)).red = false ∧ (s.f (kid s.f w true)).red = false) ↔ (red a = false ∧ red b = false) := by
    rw [← ra, ← rb]
    cases d
    · exact Iff.rfl
    · exact and_comm
  refine ⟨fun hb2 => ⟨?_, ?_, red_0 aw.ne⟩, fun hb2 => ?_⟩
  · simp only [lift2]; rw [if_pos (cond.2 hb2)]
  · rw [flip3]; exact red_w w0 true
  · -- the far one is red: turned at p
    have fin : ∀ (s : Rb) (a b : T) (v : Nat), W s len (plug k (mk d t p cp (mk d a v false b))) → BH a h → BH b h → red b = true → ∃ s' t',
        turn (setRed (setRed (setRed s v (s.f p).red) p false) (kid (setRed (setRed s v (s.f p).red) p false).f v (!d)) false) p d = s' ∧ W s' len t' ∧ ids t' = ids (plug k (mk d t p cp (mk d a v false b))) ∧ Ok t' ∧ t' ≠ .e := by
      intro s a b v hw ha hb hrb
      obtain ⟨b1, bi, bc, b2, rfl⟩ := mk_all d b (by rintro rfl; simp [red] at hrb)
      simp at hrb; subst hrb
      obtain ⟨_, _, g1, g2⟩ := bh_t.1 hb
      have ap := at_w hw
      have w1 : W (setRed s v (s.f p).red) len (plug k (mk d t p cp (mk d a v cp (mk d b1 bi true b2)))) := by
        rw [ap.rd]
        exact of_red (w := hw) (k := (!d, p, cp, t) :: k) (d := d) cp (flip3 ..) (flip3 ..).symm
      have w2 := red_w w1 false
      have hkv : kid (setRed (setRed s v (s.f p).red) p false).f v (!d) = bi := by
        have := (at_w (k := (!d, p, false, t) :: k) (d := d) (by rw [flip3] at w2; exact w2)).kn
        simpa using this
      have w3 : W (setRed (setRed (setRed s v (s.f p).red) p false) bi false) len (plug k (mk d t p false (mk d a v cp (mk d b1 bi false b2)))) := by
        refine of_red (w := w2) (k := (!d, v, cp, a) :: (!d, p, false, t) :: k) (d := d) (a := b1) (b := b2) (cx := true) false ?_ ?_
        · rw [flip3]; simp only [plug]; rw [mk_flip d a]
        · rw [flip3]; simp only [plug]; rw [mk_flip d a]
      have w4 := turn_w w3
      refine ⟨_, _, congrArg (fun q => turn (setRed (setRed (setRed s v (s.f p).red) p false) q false) p d) hkv, w4, ids_plug_congr (by cases d <;> simp [ids_mk]), ?_, ne_plug (ne_mk _ _ _ _ _)⟩
      have hA : BH (mk d t p false a) (h + 1) := bh_f.2 ⟨h, rfl, ht, ha⟩
      have hB : BH (mk d b1 bi false b2) (h + 1) := bh_f.2 ⟨h, rfl, g1, g2⟩
      cases cp with
      | true => exact ok_plug.2 ⟨h + 1, bh_t.2 ⟨by simp, by simp, hA, hB⟩, hc, fun _ => hk rfl⟩
      | false => exact ok_plug.2 ⟨h + 2, bh_f.2 ⟨h + 1, rfl, hA, hB⟩, hc, by simp⟩
    by_cases hrb : red b = true
    · obtain ⟨s', t', e1, e2, e3, e4, e5⟩ := fin s a b w hw ha hb hrb
      refine ⟨s', t', ?_, e2, e3, e4, e5⟩
      simp only [lift2]
      rw [if_neg (fun q => hb2 (cond.1 q)), if_pos (by rw [rb]; exact hrb)]
      dsimp only
      rw [e1]
    · have hrb' : red b = false := by simpa using hrb
      have hra : red a = true := by
        cases q : red a
        · exact absurd ⟨q, hrb'⟩ hb2
        · rfl
      obtain ⟨a1, ai, ac, a2, rfl⟩ := mk_all d a (by rintro rfl; simp [red] at hra)
      simp at hra; subst hra
      obtain ⟨r1, r2, g1, g2⟩ := bh_t.1 ha
      have hka : kid s.f w d = ai := by have := aw.kd; simpa using this
      have w1 : W (setRed s ai false) len (plug ((!d, p, cp, t) :: k) (mk d (mk d a1 ai false a2) w false b)) := red_w (k := (d, w, false, b) :: (!d, p, cp, t) :: k) (d := d) (a := a1) (b := a2) (cx := true) (by simpa only [plug] using w0) false
      have w2 := red_w w1 true
      have w3 : W (turn (setRed (setRed s ai false) w true) w (!d)) len (plug ((!d, p, cp, t) :: k) (mk d a1 ai false (mk d a2 w true b))) := by
        have := turn_w (k := (!d, p, cp, t) :: k) (d := !d) (a := b) (x := w) (cx := true) (b := a2) (y := ai) (cy := false) (c := a1) (by rw [mk_flip, mk_flip]; exact w2)
        rw [mk_flip, mk_flip] at this
        exact this
      have w4 : W (turn (setRed (setRed s ai false) w true) w (!d)) len (plug k (mk d t p cp (mk d a1 ai false (mk d a2 w true b)))) := by rw [flip3]; exact w3
      have hkp := (at_w w4).kn
      rw [rt_mk] at hkp
      obtain ⟨s', t', e1, e2, e3, e4, e5⟩ := fin _ _ _ _ w4 g1 (bh_t.2 ⟨r2, hrb', g2, hb⟩) (by simp)
      refine ⟨s', t', ?_, e2, ?_, e4, e5⟩
      · simp only [lift2]
        rw [if_neg (fun q => hb2 (cond.1 q)), if_neg (by rw [rb]; simpa using hrb')]
        dsimp only
        rw [hka, hkp, e1]
      · rw [e3]; exact ids_plug_congr (by cases d <;> simp [ids_mk])

/-- A tree that lacks a black one. -/
def Lk (t : T) (h : Nat) : Prop := (red t = false ∧ BH t h) ∨ ∃ d a i b, t = mk d a i true b ∧ BH a h ∧ BH b h
theorem W.frame {s s' : Rb} {t : T} (w : W s len t) (hr : s'.root = s.root) (hf : ∀ i, i ≠ 0 → s'.f i = s.f i) : W s' len t :=
  ⟨w.sh.frame fun i hi => hf i (w.sh.pos i hi).1, hr.trans w.root, w.once⟩
theorem root_mem {s : Rb} {k : Ctx} {t : T} (w : W s len (plug k t)) (hk : k ≠ []) : rt t ≠ s.root := by
  obtain ⟨f, k, rfl⟩ := List.exists_cons_of_ne_nil hk
  obtain ⟨d, p, c, u⟩ := f
  have hmem : ∀ (k : Ctx) (p : Nat), rtC k p = p ∨ rtC k p ∈ idC k := by
    intro k
    induction k with
    | nil => intro p; exact .inl rfl
    | cons f k ih =>
      intro p
      obtain ⟨d, q, c, u⟩ := f
      rcases ih q with h | h
      · exact .inr (by simp [rtC, idC, h])
      · exact .inr (by simp [rtC, idC, h])
  have hr : s.root = rtC k p := by rw [w.root, rt_plug]; rfl
  have hm : s.root ∈ idC ((d, p, c, u) :: k) := by
    rw [hr]
    rcases hmem k p with h | h
    · simp [idC, h]
    · simp [idC, h]
  have hp := (sh_plug.1 w.sh).2.pos _ hm
  intro e
  have h1 := w.once s.root
  rw [cnt_plug] at h1
  have h2 := cntC_pos.1 hm
  have h3 := cnt_pos.1 (rt_mem (t := t) (by rw [e]; exact hp.1))
  rw [e] at h3
  omega
theorem lift_end {s : Rb} {k : Ctx} {t : T} {h : Nat} (w : W s len (plug k t)) (h0 : (s.f 0).red = false) (hl : Lk t h) (hc : CB k (h + 1)) (hx : k = [] ∨ red t = true) :
    ∃ s' t', liftF 1 s (rt t) = some s' ∧ W s' len t' ∧ ids t' = ids (plug k t) ∧ Ok t' := by
  have hno : ¬ (rt t ≠ s.root ∧ (s.f (rt t)).red = false) := by
    rintro ⟨h1, h2⟩
    rcases hx with rfl | hx
    · exact h1 (by rw [w.root]; rfl)
    · rw [red_at w h0, hx] at h2; cases h2
  simp only [liftF]
  rw [if_neg hno]
  cases t with
  | e =>
    rcases hx with rfl | hx
    · refine ⟨_, .e, rfl, W.frame w rfl fun i hi => ?_, rfl, rfl, 0, rfl⟩
      exact fupd_ne hi
    · cases hx
  | n l i c r =>
    have w1 := red_w (k := k) (d := false) (a := l) (b := r) w false
    refine ⟨_, _, rfl, w1, ids_plug_congr rfl, ?_⟩
    rcases hl with ⟨h1, h2⟩ | ⟨d, a, j, b, e, h1, h2⟩
    · have h1' : c = false := h1
      subst h1'
      rcases hx with rfl | hx
      · exact ⟨rfl, h, h2⟩
      · cases hx
    · refine ok_plug.2 ⟨h + 1, ?_, hc, by simp⟩
      cases d <;> (cases e; exact bh_f.2 ⟨h, rfl, by assumption, by assumption⟩)
theorem lift_root {s : Rb} {t : T} (w : W s len t) (ho : Ok t) (hne : t ≠ .e) : ∃ s' t', liftF 1 s s.root = some s' ∧ W s' len t' ∧ ids t' = ids t ∧ Ok t' := by
  obtain ⟨t', w', e1, _, _, e4⟩ := black_w w hne
  have := e4 ho.1
  subst this
  refine ⟨_, t', ?_, w', rfl, ho⟩
  simp [liftF]
theorem lift_mono : ∀ {m : Nat} {s : Rb} {x : Nat} {s' : Rb}, liftF m s x = some s' → liftF (m + 1) s x = some s'
  | 0, _, _, _, h => by cases h
  | m + 1, s, x, s', h => by
    simp only [liftF] at h ⊢
    split
    · rename_i hc; rw [if_pos hc] at h
      exact lift_mono h
    · rename_i hc; rw [if_neg hc] at h; exact h

theorem lift_w : ∀ (n : Nat) {s : Rb} {k : Ctx} {t : T} {h : Nat}, k.length ≤ n → (s.f 0).red = false → (s.f (rt t)).up = upOf k → W s len (plug k t) → Lk t h → CB k (h + 1) →
    ∃ m s' t', liftF m s (rt t) = some s' ∧ W s' len t' ∧ ids t' = ids (plug k t) ∧ Ok t' := by
  intro n
  induction n with
  | zero =>
    intro s k t h hk h0 hu w hl hc
    have : k = [] := List.length_eq_zero_iff.1 (by omega)
    obtain ⟨s', t', e⟩ := lift_end w h0 hl hc (.inl this)
    exact ⟨1, s', t', e⟩
  | succ n ih =>
    intro s k t h hk h0 hu w hl hc
    by_cases hx : k = [] ∨ red t = true
    · obtain ⟨s', t', e⟩ := lift_end w h0 hl hc hx
      exact ⟨1, s', t', e⟩
    · have hk0 : k ≠ [] := fun e => hx (.inl e)
      have hrt : red t = false := by simpa using fun e => hx (.inr e)
      have hbt : BH t h := by
        rcases hl with ⟨_, h2⟩ | ⟨d, a, i, b, e, _⟩
        · exact h2
        · rw [e] at hrt; simp at hrt
      have hroot := root_mem w hk0
      obtain ⟨f, k, rfl⟩ := List.exists_cons_of_ne_nil hk0
      obtain ⟨d, p, cp, sib⟩ := f
      have hgo : ∀ m, liftF (m + 1) s (rt t) = liftF m (lift1 s (rt t)).1 (lift1 s (rt t)).2 := fun m => by
        simp only [liftF]
        rw [if_pos ⟨hroot, by rw [red_at w h0]; exact hrt⟩]
      have hup : (s.f (rt t)).up = p := hu
      have hw0 : W s len (plug k (mk d t p cp sib)) := w
      have ap := at_w hw0
      have hbs : BH sib (h + 1) ∧ (cp = true → topB k ∧ red sib = false) ∧ CB k (if cp then h + 1 else h + 2) := by
        cases cp
        · exact ⟨hc.1, by simp, hc.2⟩
        · exact ⟨hc.2.1, fun _ => ⟨hc.2.2.1, hc.1⟩, hc.2.2.2⟩
      have hsne : sib ≠ .e := by rintro rfl; have := hbs.1; simp [BH] at this
      obtain ⟨a, v, cv, b, rfl⟩ := mk_all d sib hsne
      have hd : (!decide ((s.f p).k0 = rt t)) = d := by
        cases d with
        | false =>
          have : (s.f p).k0 = rt t := ap.kd
          simp [this]
        | true =>
          have : (s.f p).k0 = v := by have := ap.kn; rw [rt_mk] at this; exact this
          rw [this]
          have : v ≠ rt t := by
            rintro rfl
            have h1 := w.once (rt t)
            simp only [plug] at h1
            rw [cnt_plug, cnt_mk, cnt_mk, if_pos rfl] at h1
            have hv : rt t ≠ 0 := (at_w (k := (!true, p, cp, t) :: k) (d := true) (by rw [flip3] at hw0; exact hw0)).ne
            have := cnt_pos.1 (rt_mem hv)
            omega
          simp [this]
      have hkw : kid s.f p (!d) = v := by have := ap.kn; simpa using this
      have av := at_w (k := (!d, p, cp, t) :: k) (d := d) (by rw [flip3] at hw0; exact hw0)
      by_cases hcv : cv = true
      · subst hcv
        have hcp : cp = false := by
          cases cp
          · rfl
          · have := (hbs.2.1 rfl).2; simp at this
        subst hcp
        obtain ⟨ra, rb, ha, hb⟩ := bh_t.1 hbs.1
        have w1 : W (setRed s v false) len (plug k (mk d t p false (mk d a v false b))) := of_red (w := hw0) (k := (!d, p, false, t) :: k) (d := d) false (flip3 ..) (flip3 ..).symm
        have w2 := red_w w1 true
        have w3 := turn_w w2
        have hky : kid (setRed (setRed s v false) p true).f p (!d) = v := by have := (at_w w2).kn; simpa using this
        have hf0 : (turn (setRed (setRed s v false) p true) p d).f 0 = s.f 0 := by
          rw [turn_0 ap.ne (by rw [hky]; exact av.ne), red_0 ap.ne, red_0 av.ne]
        have w4 : W (turn (setRed (setRed s v false) p true) p d) len (plug ((d, v, false, b) :: k) (mk d t p true a)) := w3
        have hkp : kid (turn (setRed (setRed s v false) p true) p d).f p (!d) = rt a := (at_w w4).kn
        have hst : lift1 s (rt t) = lift2 (turn (setRed (setRed s v false) p true) p d) p (rt a) d := by
          simp only [lift1, hup, hd, hkw]
          rw [if_pos av.rd, hkp]
        obtain ⟨a1, ai, ac, a2, rfl⟩ := mk_all d a (by rintro rfl; simp [BH] at ha)
        simp at ra; subst ra
        obtain ⟨h', e', g1, g2⟩ := bh_f.1 ha
        obtain rfl : h' = h := by omega
        rw [rt_mk] at hst
        obtain ⟨L1, L2⟩ := lift2_w w4 (by rw [hf0]; exact h0) g1 g2 hbt hrt (fun _ => trivial) ⟨hb, hbs.2.2⟩
        by_cases hbb : red a1 = false ∧ red a2 = false
        · obtain ⟨l1, l2, l3⟩ := L1 hbb
          obtain ⟨s', t', e1, e2, e3, e4⟩ := lift_end (h := h') l2 (by rw [l3, hf0]; exact h0) (.inr ⟨d, t, p, _, rfl, hbt, bh_t.2 ⟨hbb.1, hbb.2, g1, g2⟩⟩) ⟨hb, hbs.2.2⟩ (.inr (by simp))
          rw [rt_mk] at e1
          refine ⟨2, s', t', by rw [hgo, hst, l1]; exact e1, e2, ?_, e4⟩
          rw [e3]; simp only [plug]; exact ids_plug_congr (by cases d <;> simp [ids_mk])
        · obtain ⟨s1, t1, l1, l2, l3, l4, l5⟩ := L2 hbb
          obtain ⟨s', t', e1, e2, e3, e4⟩ := lift_root l2 l4 l5
          refine ⟨2, s', t', by rw [hgo, hst, l1]; exact e1, e2, ?_, e4⟩
          rw [e3, l3]; simp only [plug]; exact ids_plug_congr (by cases d <;> simp [ids_mk])
      · have hcv' : cv = false := by simpa using hcv
        subst hcv'
        obtain ⟨h', e', ha, hb⟩ := bh_f.1 hbs.1
        obtain rfl : h' = h := by omega
        have hst : lift1 s (rt t) = lift2 s p v d := by
          simp only [lift1, hup, hd, hkw]
          rw [if_neg (by rw [av.rd]; simp)]
        obtain ⟨L1, L2⟩ := lift2_w hw0 h0 ha hb hbt hrt (fun q => (hbs.2.1 q).1) hbs.2.2
        by_cases hbb : red a = false ∧ red b = false
        · obtain ⟨l1, l2, l3⟩ := L1 hbb
          have hup2 := (at_w l2).up
          have hsr : BH (mk d a v true b) h' := bh_t.2 ⟨hbb.1, hbb.2, ha, hb⟩
          have hkl : k.length ≤ n := by simp at hk; omega
          cases cp with
          | true =>
            obtain ⟨m, s', t', e1, e2, e3, e4⟩ := ih (t := mk d t p true (mk d a v true b)) (h := h') hkl (by rw [l3]; exact h0) (by rw [rt_mk]; exact hup2) l2 (.inr ⟨d, t, p, _, rfl, hbt, hsr⟩) hbs.2.2
            rw [rt_mk] at e1
            refine ⟨m + 1, s', t', by rw [hgo, hst, l1]; exact e1, e2, ?_, e4⟩
            rw [e3]; simp only [plug]; exact ids_plug_congr (by cases d <;> simp [ids_mk])
          | false =>
            obtain ⟨m, s', t', e1, e2, e3, e4⟩ := ih (t := mk d t p false (mk d a v true b)) (h := h' + 1) hkl (by rw [l3]; exact h0) (by rw [rt_mk]; exact hup2) l2 (.inl ⟨by simp, bh_f.2 ⟨h', rfl, hbt, hsr⟩⟩) hbs.2.2
            rw [rt_mk] at e1
            refine ⟨m + 1, s', t', by rw [hgo, hst, l1]; exact e1, e2, ?_, e4⟩
            rw [e3]; simp only [plug]; exact ids_plug_congr (by cases d <;> simp [ids_mk])
        · obtain ⟨s1, t1, l1, l2, l3, l4, l5⟩ := L2 hbb
          obtain ⟨s', t', e1, e2, e3, e4⟩ := lift_root l2 l4 l5
          refine ⟨2, s', t', by rw [hgo, hst, l1]; exact e1, e2, ?_, e4⟩
          rw [e3, l3]; rfl
end Go.Proofs.Ytjahkgfihdngkaa.Ev.Rb
