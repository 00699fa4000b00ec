/- This text of the evaluator proves: every operation, and a region in order. No condition. -/
import Derived.Test.YtmdilnelogechaaDoorEvB
import Derived.MapKept
import Derived.OrdersIn
import Derived.RangeFuncRecord
set_option linter.unusedVariables false
set_option linter.unusedSimpArgs false
set_option linter.constructorNameAsVariable false
/- Maps: looked up, made, written, gone over in whatever order. -/
namespace Go.Proofs.YtmdilnelogechaaDoor.Ev
open Go

/-- Entries stand for entries, one by one. -/
inductive EL (σ : Names) : List (Nat × Val × Val) → List MapEntry → Prop where
  | nil : EL σ [] []
  | cons {x : Nat × Val × Val} {e : MapEntry} {l : List (Nat × Val × Val)} {m : List MapEntry} (h1 : e.born = x.1) (h2 : VRel σ x.2.1 e.key) (h3 : VRel σ x.2.2 e.val) (h : EL σ l m) : EL σ (x :: l) (e :: m)

theorem EL.of {σ : Names} : ∀ {l : List (Nat × Val × Val)} {m : List MapEntry}, l.length = m.length →
    (∀ (j : Nat) (x : Nat × Val × Val) (e : MapEntry), l[j]? = some x → m[j]? = some e → e.born = x.1 ∧ VRel σ x.2.1 e.key ∧ VRel σ x.2.2 e.val) → EL σ l m
  | [], [], _, _ => .nil
  | [], _ :: _, h, _ => by simp at h
  | _ :: _, [], h, _ => by simp at h
  | x :: l, e :: m, h, g => .cons (g 0 x e rfl rfl).1 (g 0 x e rfl rfl).2.1 (g 0 x e rfl rfl).2.2 (EL.of (by simpa using h) fun j x e a b => g (j + 1) x e (by simpa using a) (by simpa using b))
theorem EL.len {σ : Names} {l : List (Nat × Val × Val)} {m : List MapEntry} (h : EL σ l m) : l.length = m.length := by
  induction h with
  | nil => rfl
  | cons _ _ _ _ ih => simp [ih]
theorem EL.get {σ : Names} {l : List (Nat × Val × Val)} {m : List MapEntry} (h : EL σ l m) : ∀ (j : Nat) (x : Nat × Val × Val) (e : MapEntry), l[j]? = some x → m[j]? = some e → e.born = x.1 ∧ VRel σ x.2.1 e.key ∧ VRel σ x.2.2 e.val := by
  induction h with
  | nil => intro j x e h; simp at h
  | cons h1 h2 h3 _ ih =>
    intro j x e ha hb
    cases j with
    | zero => simp at ha hb; subst ha; subst hb; exact ⟨h1, h2, h3⟩
    | succ j => exact ih j x e (by simpa using ha) (by simpa using hb)
theorem EL.filter {σ : Names} {l : List (Nat × Val × Val)} {m : List MapEntry} (h : EL σ l m) (p : Nat → Bool) : EL σ (l.filter fun x => p x.1) (m.filter fun e => p e.born) := by
  induction h with
  | nil => exact .nil
  | cons h1 h2 h3 _ ih =>
    rename_i x e l m
    simp only [List.filter_cons, h1]
    split
    · exact .cons h1 h2 h3 ih
    · exact ih
theorem EL.append {σ : Names} {l l' : List (Nat × Val × Val)} {m m' : List MapEntry} (h : EL σ l m) (g : EL σ l' m') : EL σ (l ++ l') (m ++ m') := by
  induction h with
  | nil => exact g
  | cons h1 h2 h3 _ ih => exact .cons h1 h2 h3 ih
theorem EL.set {σ : Names} {l : List (Nat × Val × Val)} {m : List MapEntry} (h : EL σ l m) {i : Nat} {x : Nat × Val × Val} {f : MapEntry → MapEntry}
    (hx : ∀ e, m[i]? = some e → (f e).born = x.1 ∧ VRel σ x.2.1 (f e).key ∧ VRel σ x.2.2 (f e).val) : EL σ (l.set i x) (m.modify i f) := by
  induction h generalizing i with
  | nil => cases i <;> exact .nil
  | cons h1 h2 h3 h ih =>
    cases i with
    | zero =>
      obtain ⟨a, b, c⟩ := hx _ rfl
      exact .cons a b c h
    | succ i => exact .cons h1 h2 h3 (ih fun e he => hx e (by simpa using he))
theorem EL.erase {σ : Names} {l : List (Nat × Val × Val)} {m : List MapEntry} (h : EL σ l m) (i : Nat) : EL σ (l.eraseIdx i) (m.eraseIdx i) := by
  induction h generalizing i with
  | nil => exact .nil
  | cons h1 h2 h3 h ih =>
    cases i with
    | zero => exact h
    | succ i => exact .cons h1 h2 h3 (ih i)
theorem EL.all {σ : Names} {l : List (Nat × Val × Val)} {m : List MapEntry} (h : EL σ l m) (p : Nat → Bool) : (m.all fun e => p e.born) = l.all fun x => p x.1 := by
  induction h with
  | nil => rfl
  | cons h1 h2 h3 _ ih => simp [h1, ih]
theorem EL.findIdx {σ : Names} {l : List (Nat × Val × Val)} {m : List MapEntry} (h : EL σ l m) (p : Nat → Bool) : (m.findIdx? fun e => p e.born) = l.findIdx? fun x => p x.1 := by
  induction h with
  | nil => rfl
  | cons h1 h2 h3 _ ih => simp [List.findIdx?_cons, h1, ih]

theorem MRel.el {σ : Names} {w : World} {es : List (Nat × Val × Val)} {ck : Nat} {l : Loc} (r : MRel σ w es ck l) : ∃ E : Array MapEntry, w.heap[l.blk]? = some (.map E ck) ∧ EL σ es E.toList := by
  obtain ⟨E, h1, h2, h3⟩ := r
  exact ⟨E, h1, EL.of (by simpa using h2) fun j x e a b => h3 j x e a (by simpa using b)⟩
theorem MRel.mk' {σ : Names} {w : World} {es : List (Nat × Val × Val)} {ck : Nat} {l : Loc} {E : Array MapEntry} (h1 : w.heap[l.blk]? = some (.map E ck)) (h2 : EL σ es E.toList) : MRel σ w es ck l :=
  ⟨E, h1, by simpa using h2.len, fun j x e a b => h2.get j x e a (by simpa using b)⟩

/-- A key's type, and what its values are. -/
def fieldKs (P : Program) : List Field → Nat → Option (List IntKind)
  | [], _ => some []
  | f :: r, off => if f.name = "_" ∨ f.offset ≠ off then none else match P.underlying f.type, fieldKs P r (off + 1) with
    | some (.int k), some ks => some (k :: ks)
    | _, _ => none
def KK.at (P : Program) (t : TypeId) : Option KK :=
  match P.underlying t with
  | some (.struct fs) => match fieldKs P fs.toList 0, P.info? t with
    | some ks, some i => if i.size = ks.length ∧ flatK P 50 t = some (ks.map fun _ => 0) then some (.st ks) else none
    | _, _ => none
  | some d => KK.of d
  | none => none

theorem isKs_len : ∀ {ks : List IntKind} {vs : List Val}, isKs ks vs = true → vs.length = ks.length
  | [], [], _ => rfl
  | [], _ :: _, h => by simp [isKs] at h
  | k :: ks, [], h => by simp [isKs] at h
  | k :: ks, v :: vs, h => by
    cases v <;> simp [isKs] at h
    simp [isKs_len h.2]
theorem isKs_get : ∀ {ks : List IntKind} {vs : List Val}, isKs ks vs = true → ∀ {j : Nat} {v : Val}, vs[j]? = some v → ∃ k n, v = .i k n
  | [], [], _, j, v, hv => by simp at hv
  | [], _ :: _, h, _, _, _ => by simp [isKs] at h
  | k :: ks, [], h, _, _, _ => by simp [isKs] at h
  | k :: ks, v :: vs, h, j, u, hu => by
    cases v <;> simp [isKs] at h
    cases j with
    | zero => simp at hu; exact ⟨_, _, hu.symm⟩
    | succ j => exact isKs_get h.2 (by simpa using hu)
theorem isKs_eq : ∀ {ks : List IntKind} {a b : List Val}, isKs ks a = true → isKs ks b = true → ceqs (ks.map fun _ => 0) a b = some (kqs a b)
  | [], [], [], _, _ => rfl
  | [], _ :: _, _, h, _ => by simp [isKs] at h
  | [], [], _ :: _, _, h => by simp [isKs] at h
  | k :: ks, [], _, h, _ => by simp [isKs] at h
  | k :: ks, _ :: _, [], _, h => by simp [isKs] at h
  | k :: ks, u :: a, v :: b, h, g => by
    cases u <;> simp [isKs] at h
    cases v <;> simp [isKs] at g
    obtain ⟨rfl, h⟩ := h
    obtain ⟨rfl, g⟩ := g
    simp only [List.map_cons, ceqs, ceq, if_true, isKs_eq h g, kqs]
theorem kqs_true : ∀ {ks : List IntKind} {a b : List Val}, isKs ks a = true → isKs ks b = true → kqs a b = true → a = b
  | [], [], [], _, _, _ => rfl
  | [], _ :: _, _, h, _, _ => by simp [isKs] at h
  | [], [], _ :: _, _, h, _ => by simp [isKs] at h
  | k :: ks, [], _, h, _, _ => by simp [isKs] at h
  | k :: ks, _ :: _, [], _, h, _ => by simp [isKs] at h
  | k :: ks, u :: a, v :: b, h, g, q => by
    cases u <;> simp [isKs] at h
    cases v <;> simp [isKs] at g
    obtain ⟨rfl, h⟩ := h
    obtain ⟨rfl, g⟩ := g
    simp [kqs] at q
    rw [q.1, kqs_true h g q.2]

theorem at_st {P : Program} {kt : TypeId} {ks : List IntKind} (h : KK.at P kt = some (.st ks)) : ∃ fs i, P.underlying kt = some (.struct fs) ∧ fieldKs P fs.toList 0 = some ks ∧ P.info? kt = some i ∧ i.size = ks.length ∧ flatK P 50 kt = some (ks.map fun _ => 0) := by
  unfold KK.at at h
  split at h
  · rename_i fs hu
    split at h
    · rename_i ks' i h1 h2
      split at h
      · rename_i h3
        cases h
        exact ⟨fs, i, hu, h1, h2, h3⟩
      · cases h
    · cases h
  · rename_i d _ hu
    cases d <;> simp [KK.of] at h
  · cases h
theorem at_of {P : Program} {kt : TypeId} {kk : KK} (h : KK.at P kt = some kk) (hn : ∀ ks, kk ≠ .st ks) : P.underlying kt = some kk.desc := by
  unfold KK.at at h
  split at h
  · split at h
    · split at h
      · cases h; exact absurd rfl (hn _)
      · cases h
    · cases h
  · rename_i d _ hu
    rw [hu]
    cases d <;> simp [KK.of] at h <;> subst h <;> rfl
  · cases h

theorem isK_rel {σ : Names} {kk : KK} (hn : ∀ ks, kk ≠ .st ks) {v : Val} {c : Value} (h : isK kk v = true) (r : VRel σ v c) : MapKept.IsKey kk.desc c := by
  cases kk with
  | st ks => exact absurd rfl (hn ks)
  | _ => cases v <;> simp [isK] at h <;> cases r <;> simp [MapKept.IsKey, KK.desc] <;> exact h
theorem kq_rel {σ : Names} {kk : KK} (hn : ∀ ks, kk ≠ .st ks) {a b : Val} {x y : Value} (ha : isK kk a = true) (hb : isK kk b = true) (ra : VRel σ a x) (rb : VRel σ b y) : Instr.sameNow kk.desc x y = some (kq a b) ∧ (kq a b = true → y = x) := by
  cases kk with
  | st ks => exact absurd rfl (hn ks)
  | int k =>
    cases a <;> simp [isK] at ha <;> cases b <;> simp [isK] at hb <;> cases ra <;> cases rb <;> simp [Instr.sameNow, KK.desc, kq]
    subst ha; subst hb; simp; exact fun h => h.symm
  | bool =>
    cases a <;> simp [isK] at ha <;> cases b <;> simp [isK] at hb <;> cases ra <;> cases rb <;> simp [Instr.sameNow, KK.desc, kq]
    exact fun h => h.symm
  | str =>
    cases a <;> simp [isK] at ha <;> cases b <;> simp [isK] at hb <;> cases ra <;> cases rb <;> simp [Instr.sameNow, KK.desc, kq]
    exact fun h => ((MapKept.bytes_beq _ _).1 h).symm

theorem isKs_rel {σ : Names} {ks : List IntKind} {v : Val} {c : Value} (h : isK (.st ks) v = true) (r : VRel σ v c) : ∃ vs xs, v = .agg vs ∧ c = .agg xs ∧ isKs ks vs = true ∧ vs.length = xs.size ∧ ∀ (j : Nat) (u : Val), vs[j]? = some u → ∃ k n, u = .i k n ∧ xs[j]? = some (.int k n) := by
  cases v <;> simp [isK] at h
  rename_i vs
  cases r with
  | agg ha ra =>
    rename_i xs
    refine ⟨vs, xs, rfl, rfl, h, ha, fun j u hu => ?_⟩
    obtain ⟨k, n, rfl⟩ := isKs_get h hu
    have hj : j < xs.size := by rw [← ha]; exact (List.getElem?_eq_some_iff.1 hu).1
    have hx := Array.getElem?_eq_getElem hj
    have := ra j _ _ hu hx
    generalize xs[j] = q at this hx
    cases this
    exact ⟨k, n, rfl, hx⟩

theorem run_stays {P : Program} {w : World} {σ : Names} {kk : KK} {v : Val} {c : Value} (h : isK kk v = true) (r : VRel σ v c) : (Instr.keyThatStays c c).run P w = .ok c w := by
  by_cases hn : ∀ ks, kk ≠ .st ks
  · exact MapKept.run_keyThatStays (isK_rel hn h r)
  · obtain ⟨ks, rfl⟩ : ∃ ks, kk = .st ks := by
      cases kk with
      | st ks => exact ⟨ks, rfl⟩
      | _ => exact absurd (fun ks => by simp) hn
    obtain ⟨vs, xs, rfl, rfl, hk, hl, hx⟩ := isKs_rel h r
    have : Instr.sameBits 10000 (.agg xs) (.agg xs) = true := by
      show Instr.sameBits (9999 + 1) (.agg xs) (.agg xs) = true
      simp only [Instr.sameBits, BEq.rfl, Bool.true_and, List.all_eq_true]
      rintro ⟨a, b⟩ hab
      obtain ⟨j, hj, e⟩ := List.getElem_of_mem hab
      simp at hj
      rw [List.getElem_zip] at e
      have hj' : j < vs.length := by omega
      obtain ⟨k, n, _, g⟩ := hx j vs[j] (List.getElem?_eq_getElem hj')
      have g' : xs[j] = .int k n := by rw [Array.getElem?_eq_getElem hj] at g; exact Option.some.inj g
      simp only [Array.getElem_toList] at e
      cases e
      rw [g']
      simp [Instr.sameBits]
    simp [Instr.keyThatStays, this]

theorem run_check {P : Program} {w : World} {σ : Names} {kt : TypeId} {kk : KK} (hK : KK.at P kt = some kk) {v : Val} {c : Value} (h : isK kk v = true) (r : VRel σ v c) (em : Bool) : (Instr.checkKey em 10000 kt c).run P w = .ok () w := by
  by_cases hn : ∀ ks, kk ≠ .st ks
  · exact MapKept.run_checkKey (at_of hK hn) (isK_rel hn h r) em 9999
  · obtain ⟨ks, rfl⟩ : ∃ ks, kk = .st ks := by
      cases kk with
      | st ks => exact ⟨ks, rfl⟩
      | _ => exact absurd (fun ks => by simp) hn
    obtain ⟨vs, xs, rfl, rfl, hk, hl, hx⟩ := isKs_rel h r
    obtain ⟨fs, i, hu, hf, -, -, -⟩ := at_st hK
    clear hn
    suffices hs : ∀ n, (Instr.checkKey em (n + 1 + 1) kt (.agg xs)).run P w = .ok () w from hs 9998
    intro n0
    rw [Instr.checkKey]
    simp only [Sem.run_bind, run_underlying hu, Result.andThen_ok]
    rw [← Array.forIn_toList]
    generalize fs.toList = l at hf
    have hx' : ∀ (j : Nat) (u : Val), vs[j]? = some u → ∃ k n, u = .i k n ∧ xs[0 + j]? = some (.int k n) := by simpa using hx
    clear hx h r hK hl hu
    generalize (0 : Nat) = off at hf hx'
    induction l generalizing off ks vs with
    | nil => simp
    | cons f l ih =>
      simp only [fieldKs] at hf
      split at hf
      · cases hf
      · rename_i hne
        split at hf
        · rename_i k ks' hu hr
          cases hf
          cases vs with
          | nil => simp [isKs] at hk
          | cons u vs =>
            obtain ⟨k', n, rfl, g⟩ := hx' 0 u rfl
            simp [isKs] at hk
            have hn1 : f.name ≠ "_" := fun e => hne (.inl e)
            have hn2 : f.offset = off := Decidable.byContradiction fun e => hne (.inr e)
            rw [Nat.add_zero] at g
            have one : (part f.type xs f.offset).run P w = .ok (.int k' n) w := by
              simp only [part, Sem.run_bind, run_isAgg' hu, isAggD, Result.andThen_ok, Bool.false_eq_true, if_false, hn2, g, Sem.run_pure]
            have two : (Instr.checkKey em (n0 + 1) f.type (.int k' n)).run P w = .ok () w := by
              simp [Instr.checkKey, run_underlying hu]
            simp only [List.forIn_cons, Sem.run_bind, hn1, ne_eq, not_false_eq_true, if_true, one, two, Result.andThen_ok, Sem.run_pure]
            exact ih ks' vs hk.2 (off + 1) hr (fun j v hv => by
              have := hx' (j + 1) v (by simpa using hv)
              rw [show off + 1 + j = off + (j + 1) by omega]; exact this)
        · cases hf

theorem find_st {P : Program} {σ : Names} {kt : TypeId} {ks : List IntKind} (hK : KK.at P kt = some (.st ks)) {k : Val} {ck : Value} (hk : isK (.st ks) k = true) (rk : VRel σ k ck) {es : List (Nat × Val × Val)} {E : List MapEntry} (h : EL σ es E) : ∀ {i : Nat} {q : Option (Nat × Val)}, findV (.st ks) k es i = some q →
    (q = none ∧ ∀ w, (Instr.findAsking kt ck E i).run P w = .ok none w) ∨ ∃ j x e, q = some (i + j, x.2.2) ∧ es[j]? = some x ∧ E[j]? = some e ∧ e.key = ck ∧ (∀ w, (Instr.findAsking kt ck E i).run P w = .ok (some (i + j, e.val)) w) ∧ VRel σ x.2.2 e.val ∧ e.born = x.1 := by
  induction h with
  | nil => intro i q hq; cases hq; exact .inl ⟨rfl, fun w => rfl⟩
  | cons h1 h2 h3 h ih =>
    rename_i x e l m
    intro i q hq
    simp only [findV] at hq
    split at hq
    · rename_i hx
      obtain ⟨vs, xs, rfl, rfl, hvs, hvl, hvx⟩ := isKs_rel hk rk
      obtain ⟨us, ys, e1, e2, hus, hul, hux⟩ := isKs_rel hx h2
      obtain ⟨fs, inf, hu, hf, hi, hz, hfl⟩ := at_st hK
      have px : PRel σ vs xs 0 := fun j v hv => by
        obtain ⟨k, n, rfl, g⟩ := hvx j v hv
        exact ⟨_, by rw [Nat.zero_add]; exact g, .i _ _⟩
      have py : PRel σ us ys 0 := fun j v hv => by
        obtain ⟨k, n, rfl, g⟩ := hux j v hv
        exact ⟨_, by rw [Nat.zero_add]; exact g, .i _ _⟩
      have heq : ∀ w, (Op.equal kt (.agg xs) e.key).run P w = .ok (kqs vs us) w := fun w => by
        have main := eq_flat (P := P) (w := w) 50 kt _ hfl 10000 (by omega) inf hi (by simpa using hz) vs us xs ys 0 px py _ (isKs_eq hvs hus)
        have l1 := isKs_len hvs
        have l2 := isKs_len hus
        have ex : xs.extract 0 (0 + inf.size) = xs := by rw [Nat.zero_add, hz, ← l1, hvl, Array.extract_size]
        have ey : ys.extract 0 (0 + inf.size) = ys := by rw [Nat.zero_add, hz, ← l2, hul, Array.extract_size]
        simp only [part, Sem.run_bind, run_isAgg' hu, isAggD, Result.andThen_ok, if_true, run_sizeOf' hi, Sem.run_pure, ex, ey] at main
        rw [e2]
        exact main
      split at hq
      · rename_i hkq
        cases hq
        rw [e1] at hkq
        have hkq' : kqs vs us = true := hkq
        have evs := kqs_true hvs hus hkq'
        refine .inr ⟨0, x, e, rfl, rfl, rfl, ?_, fun w => ?_, h3, h1⟩
        · rw [e2]
          congr 1
          apply Array.ext
          · rw [← hvl, ← hul, evs]
          · intro j hj1 hj2
            have hj3 : j < us.length := by omega
            have hu1 := List.getElem?_eq_getElem hj3
            obtain ⟨k1, n1, g1, g2⟩ := hux j _ hu1
            obtain ⟨k2, n2, g3, g4⟩ := hvx j _ (by rw [evs]; exact hu1)
            rw [g1] at g3
            cases g3
            rw [Array.getElem?_eq_getElem hj1] at g2
            rw [Array.getElem?_eq_getElem hj2] at g4
            rw [Option.some.inj g2, Option.some.inj g4]
        · simp [Instr.findAsking, heq, hkq', Result.andThen]
      · rename_i hkq
        rw [Bool.not_eq_true, e1] at hkq
        have hkq' : kqs vs us = false := hkq
        rcases ih hq with ⟨a, b⟩ | ⟨j, x', e', a, b, c, d, f, g, g'⟩
        · exact .inl ⟨a, fun w => by simp [Instr.findAsking, heq, hkq', Result.andThen, b]⟩
        · exact .inr ⟨j + 1, x', e', by rw [a]; simp; omega, by simpa using b, by simpa using c, d, fun w => by simp [Instr.findAsking, heq, hkq', Result.andThen, f]; omega, g, g'⟩
    · cases hq

theorem find_of {σ : Names} {kk : KK} (hn : ∀ ks, kk ≠ .st ks) {k : Val} {ck : Value} (hk : isK kk k = true) (rk : VRel σ k ck) {es : List (Nat × Val × Val)} {E : List MapEntry} (h : EL σ es E) : ∀ {i : Nat} {q : Option (Nat × Val)}, findV kk k es i = some q →
    (q = none ∧ Instr.findNow kk.desc ck E i = some none) ∨ ∃ j x e, q = some (i + j, x.2.2) ∧ es[j]? = some x ∧ E[j]? = some e ∧ e.key = ck ∧ Instr.findNow kk.desc ck E i = some (some (i + j, e.val)) ∧ VRel σ x.2.2 e.val ∧ e.born = x.1 := by
  induction h with
  | nil => intro i q hq; cases hq; exact .inl ⟨rfl, rfl⟩
  | cons h1 h2 h3 h ih =>
    rename_i x e l m
    intro i q hq
    simp only [findV] at hq
    split at hq
    · rename_i hx
      obtain ⟨g1, g2⟩ := kq_rel hn hk hx rk h2
      split at hq
      · rename_i hkq
        cases hq
        rw [hkq] at g1
        exact .inr ⟨0, x, e, rfl, rfl, rfl, g2 hkq, by simp [Instr.findNow, g1], h3, h1⟩
      · rename_i hkq
        rw [Bool.not_eq_true] at hkq
        rw [hkq] at g1
        rcases ih hq with ⟨a, b⟩ | ⟨j, x', e', a, b, c, d, f, g, g'⟩
        · exact .inl ⟨a, by simp [Instr.findNow, g1, b]⟩
        · exact .inr ⟨j + 1, x', e', by rw [a]; simp; omega, by simpa using b, by simpa using c, d, by simp [Instr.findNow, g1, f]; omega, g, g'⟩
    · cases hq

theorem findV_rel {P : Program} {σ : Names} {kt : TypeId} {kk : KK} (hK : KK.at P kt = some kk) {k : Val} {ck : Value} (hk : isK kk k = true) (rk : VRel σ k ck) {es : List (Nat × Val × Val)} {E : List MapEntry} (h : EL σ es E) {q : Option (Nat × Val)} (hq : findV kk k es 0 = some q) :
    (q = none ∧ ∀ w, (Instr.findKey kt ck E).run P w = .ok none w) ∨ ∃ j x e, q = some (j, x.2.2) ∧ es[j]? = some x ∧ E[j]? = some e ∧ e.key = ck ∧ (∀ w, (Instr.findKey kt ck E).run P w = .ok (some (j, e.val)) w) ∧ VRel σ x.2.2 e.val ∧ e.born = x.1 := by
  by_cases hn : ∀ ks, kk ≠ .st ks
  · have hu := at_of hK hn
    rcases find_of hn hk rk h hq with ⟨a, b⟩ | ⟨j, x, e, a, b⟩
    · exact .inl ⟨a, fun w => MapKept.run_findKey hu b⟩
    · rw [Nat.zero_add] at a b
      exact .inr ⟨j, x, e, a, b.1, b.2.1, b.2.2.1, fun w => MapKept.run_findKey hu b.2.2.2.1, b.2.2.2.2⟩
  · obtain ⟨ks, rfl⟩ : ∃ ks, kk = .st ks := by
      cases kk with
      | st ks => exact ⟨ks, rfl⟩
      | _ => exact absurd (fun ks => by simp) hn
    obtain ⟨fs, inf, hu, hf, hi, hz, hfl⟩ := at_st hK
    have hee : ∀ w, (Instr.findKey kt ck E).run P w = (Instr.findAsking kt ck E 0).run P w := fun w => by
      cases E with
      | nil => simp [Instr.findKey, run_underlying hu, Instr.findNow, Instr.findAsking]
      | cons e es => simp [Instr.findKey, run_underlying hu, Instr.findNow, Instr.sameNow]
    rcases find_st hK hk rk h hq with ⟨a, b⟩ | ⟨j, x, e, a, b⟩
    · exact .inl ⟨a, fun w => by rw [hee, b]⟩
    · rw [Nat.zero_add] at a b
      exact .inr ⟨j, x, e, a, b.1, b.2.1, b.2.2.1, fun w => by rw [hee, b.2.2.2.1], b.2.2.2.2⟩
theorem find_nil {P : Program} {σ : Names} {kt : TypeId} {kk : KK} (hK : KK.at P kt = some kk) {k : Val} {ck : Value} (hk : isK kk k = true) (rk : VRel σ k ck) (w : World) : (Instr.findKey kt ck []).run P w = .ok none w := by
  rcases findV_rel hK hk rk (es := []) .nil rfl with ⟨_, b⟩ | ⟨j, x, e, a, _⟩
  · exact b w
  · cases a

theorem EL.find {σ : Names} {l : List (Nat × Val × Val)} {m : List MapEntry} (h : EL σ l m) (p : Nat → Bool) {y : Nat × Val × Val} (hy : l.find? (fun x => p x.1) = some y) : ∃ e, m.find? (fun e => p e.born) = some e ∧ VRel σ y.2.1 e.key ∧ VRel σ y.2.2 e.val := by
  induction h with
  | nil => simp at hy
  | cons h1 h2 h3 hr ih =>
    rename_i x e l m
    simp only [List.find?_cons] at hy ⊢
    rw [h1]
    split at hy
    · rename_i hp
      cases hy
      exact ⟨e, rfl, h2, h3⟩
    · rename_i hp
      exact ih hy
theorem ok_ent {P : Program} {σ : Names} {H : Heap} {w : World} (r : Rel σ H w) {e : Opd → Val} {x : Opd} {cx : Value} {v : Val} {H' : Heap} (hx : VRel σ (e x) cx) (hs : (IOp.ent x).step e H = some (v, H')) :
    RunOk P (do pure (.value (← Instr.entry cx))) σ H w v H' := by
  simp only [IOp.step] at hs
  split at hs
  · rename_i id hn
    rw [hn] at hx
    cases hx with
    | p hid =>
      rename_i li
      split at hs
      · rename_i mid since seen last ho
        obtain ⟨hbase, lm, hmid, hI⟩ := r.obj id li _ hid ho
        split at hs
        · rename_i b es ck hb hom
          obtain ⟨E, hE, hel⟩ := MRel.el (r.obj mid lm _ hmid hom)
          split at hs
          · rename_i hck
            subst hck
            split at hs
            · rename_i y hy
              cases hs
              obtain ⟨q, hq, g1, g2⟩ := hel.find (fun n => n == b) hy
              have hiter : (getObj li.blk).run P w = .ok (.mapIter (some lm.blk) since seen.toArray ck) w := by simp [getObj, Sem.run, hI]
              have hback : seen.toArray.back? = some b := by simpa using hb
              have hfind : E.find? (fun e => e.born == b) = some q := by rw [← Array.find?_toList]; exact hq
              refine RunOk.quiet (c := .tuple #[q.key, q.val]) r ?_ (.tup rfl fun j v c hj hc => ?_)
              · rw [hbase]
                simp [Instr.entry, hiter, hback, MapKept.run_getObj_map hE, hfind, Result.andThen]
              · match j, hj, hc with
                | 0, hj, hx => simp at hj hx; subst hj; subst hx; exact g1
                | 1, hj, hx => simp at hj hx; subst hj; subst hx; exact g2
                | j + 2, hj, _ => simp at hj
            · cases hs
          · cases hs
        · cases hs
      · cases hs
  · cases hs

theorem ok_lkp {P : Program} {σ : Names} {H : Heap} {w : World} (r : Rel σ H w) {t k el : TypeId} {kk : KK} {i : TypeInfo} {zc : Value} {z : Val} {e : Opd → Val} {x ix : Opd} {ok : Bool} {cx cix : Value} {v : Val} {H' : Heap}
    (h1 : P.underlying t = some (.map k el)) (hK : KK.at P k = some kk) (h4 : P.info? el = some i) (h5 : i.zero = some zc) (hz : VRel σ z zc) (hx : VRel σ (e x) cx) (hix : VRel σ (e ix) cix)
    (hs : (IOp.lkp kk ok z x ix).step e H = some (v, H')) : RunOk P (do pure (.value (← Instr.lookup t cx cix ok))) σ H w v H' := by
  simp only [IOp.step] at hs
  split at hs
  · rename_i hk
    have hik := fun (em : Bool) => run_check (P := P) (w := w) hK hk hix em
    have htup : ∀ (u : Val) (c : Value) (b : Bool), VRel σ u c → VRel σ (.tup [u, .b b]) (.tuple #[c, .bool b]) := by
      intro u c b hu
      refine .tup rfl fun j v x hj hx => ?_
      match j, hj, hx with
      | 0, hj, hx => simp at hj hx; subst hj; subst hx; exact hu
      | 1, hj, hx => simp at hj hx; subst hj; subst hx; exact .b b
      | j + 2, hj, _ => simp at hj
    split at hs
    · rename_i hn
      rw [hn] at hx
      cases hx
      cases hs
      cases ok
      · exact RunOk.quiet r (by simp [Instr.lookup, run_underlying h1, hik, find_nil hK hk hix, run_zeroValue' h4 h5, Result.andThen]) hz
      · exact RunOk.quiet r (by simp [Instr.lookup, run_underlying h1, hik, find_nil hK hk hix, run_zeroValue' h4 h5, Result.andThen]) (htup z zc false hz)
    · rename_i id hn
      rw [hn] at hx
      cases hx with
      | m hid =>
        rename_i lo
        split at hs
        · rename_i es ck ho
          obtain ⟨E, hE, hel⟩ := MRel.el (r.obj id lo _ hid ho)
          split at hs
          · rename_i j u hf
            cases hs
            rcases findV_rel hK hk hix hel hf with ⟨hq, _⟩ | ⟨j', x', e', hq, _, _, _, hq2, hq3, _⟩
            · cases hq
            · cases hq
              cases ok
              · exact RunOk.quiet r (by simp [Instr.lookup, run_underlying h1, MapKept.run_getObj_map hE, hik, hq2, Result.andThen]) hq3
              · exact RunOk.quiet r (by simp [Instr.lookup, run_underlying h1, MapKept.run_getObj_map hE, hik, hq2, Result.andThen]) (htup _ _ true hq3)
          · rename_i hf
            cases hs
            rcases findV_rel hK hk hix hel hf with ⟨_, hq⟩ | ⟨j', x', e', hq, _⟩
            · cases ok
              · exact RunOk.quiet r (by simp [Instr.lookup, run_underlying h1, MapKept.run_getObj_map hE, hik, hq, run_zeroValue' h4 h5, Result.andThen]) hz
              · exact RunOk.quiet r (by simp [Instr.lookup, run_underlying h1, MapKept.run_getObj_map hE, hik, hq, run_zeroValue' h4 h5, Result.andThen]) (htup z zc false hz)
            · cases hq
          · cases hs
        · cases hs
    · cases hs
  · cases hs
end Go.Proofs.YtmdilnelogechaaDoor.Ev
/- Each operation of the model that is covered: the abstract one, and that both do the same. -/
namespace Go.Proofs.YtmdilnelogechaaDoor.Ev
open Go

def zeroOf (P : Program) (t : TypeId) : Option (TypeInfo × List Val) := do
  let i ← P.info? t
  let z ← i.zero
  let zv ← ofValue z
  let zc ← zv.cells?
  if zc.length = i.size then some (i, zc) else none

theorem zeroOf_some {P : Program} {t : TypeId} {i : TypeInfo} {zc : List Val} (h : zeroOf P t = some (i, zc)) :
    ∃ z zv, P.info? t = some i ∧ i.zero = some z ∧ ofValue z = some zv ∧ zv.cells? = some zc ∧ zc.length = i.size := by
  unfold zeroOf at h
  obtain ⟨i', h1, h⟩ := Option.bind_eq_some_iff.1 h
  obtain ⟨z, h2, h⟩ := Option.bind_eq_some_iff.1 h
  obtain ⟨zv, h3, h⟩ := Option.bind_eq_some_iff.1 h
  obtain ⟨zc', h4, h⟩ := Option.bind_eq_some_iff.1 h
  split at h
  · cases h; exact ⟨z, zv, h1, h2, h3, h4, by assumption⟩
  · cases h

def comp (P : Program) (o : Oper) : Option IOp :=
  match o.op with
  | .move x => (opd x).map .mv
  | .assign x => (opd x).map .mv
  | .pick c a b => do return .pick (← opd c) (← opd a) (← opd b)
  | .alloc e => do
    let (_, zc) ← zeroOf P e
    return .box (.c (.agg zc))
  | .box _ x => (opd x).map .box
  | .build t parts => do
    let (_, zc) ← zeroOf P t
    match ← P.underlying t with
    | .struct fs => do
      let pl ← placesOf P fs.toList
      return .build zc (← partsC (fun i => pl[i]?) parts.toList)
    | .array _ e => do
      let ie ← P.info? e
      return .build zc (← partsC (fun i => some (i * ie.size, ie.size)) parts.toList)
    | _ => none
  | .buildSlice t n parts => do
    match ← P.underlying t with
    | .slice e => do
      let (i, zc) ← zeroOf P e
      if n * i.size ≤ 16777216 then return .bslice i.size n (mk zc n) (← partsC (fun j => some (j * i.size, i.size)) parts.toList) else none
    | _ => none
  | .load t a => do
    let d ← P.underlying t
    let y ← opd a
    if isAggD d then do
      let i ← P.info? t
      return .ldn i.size y
    else return .ld1 y
  | .store t a x => do
    let i ← P.info? t
    return .st i.size (← opd a) (← opd x)
  | .nilCheck x => (opd x).map .nilchk
  | .binOp op t x y _ => do
    let d ← P.underlying t
    let a ← opd x
    let b ← opd y
    if eqKind d ≠ 0 then match op with
      | .eql => return .eqn (eqKind d) false a b
      | .neq => return .eqn (eqKind d) true a b
      | _ => none
    else if isAggD d then do
      let ks ← flatK P 50 t
      let i ← P.info? t
      if i.size = ks.length ∧ P.eqGuardType P.depth t = false then match op with
        | .eql => return .eqs ks false a b
        | .neq => return .eqs ks true a b
        | _ => none
      else none
    else return .ibin op a b
  | .unOp op _ x => (opd x).map (.un op)
  | .convert s t x => do
    let _ ← P.underlying s
    match ← P.underlying t with
    | .int k => return .conv k (← opd x)
    | _ => none
  | .makeSlice t l c => do
    match ← P.underlying t with
    | .slice e => do
      let (i, zc) ← zeroOf P e
      return .mksl i.size i.bytes zc (← opd l) (← opd c)
    | _ => none
  | .slice t x lo hi none => do
    match ← P.underlying t with
    | .slice e => do
      let i ← P.info? e
      return .slice i.size (← opd x) (← oopd lo) (← oopd hi)
    | .string => return .slstr (← opd x) (← oopd lo) (← oopd hi)
    | _ => none
  | .fieldAddr t x j => do
    match ← P.underlying t with
    | .struct fs => do
      let f ← fs[j]?
      let i ← P.info? f.type
      if i.size = 0 then none else return .fad f.offset (← opd x)
    | _ => none
  | .field t x j => do
    match ← P.underlying t with
    | .struct fs => do
      let f ← fs[j]?
      let d ← P.underlying f.type
      if isAggD d then do
        let i ← P.info? f.type
        return .fldn f.offset i.size (← opd x)
      else return .fld1 f.offset (← opd x)
    | _ => none
  | .indexAddr t x ix => do
    match ← P.underlying t with
    | .slice e => do
      let i ← P.info? e
      return .iad i.size (← opd x) (← opd ix)
    | .array m e => do
      let i ← P.info? e
      return .iada i.size m (← opd x) (← opd ix)
    | _ => none
  | .index t x ix => do
    match ← P.underlying t with
    | .array m e => do
      let i ← P.info? e
      let d ← P.underlying e
      if isAggD d then return .ixn i.size m (← opd x) (← opd ix)
      else if i.size = 1 then return .ix1 m (← opd x) (← opd ix) else none
    | .string => return .ixs (← opd x) (← opd ix)
    | _ => none
  | .extract x j => do return .ext (← opd x) j
  | .entry x => do return .ent (← opd x)
  | .lookup t x ix ok => do
    match ← P.underlying t with
    | .map k e => do
      let kk ← KK.at P k
      let i ← P.info? e
      let z ← ofValue (← i.zero)
      return .lkp kk ok z (← opd x) (← opd ix)
    | _ => none
  | .makeFunc f a b => do return .mkfn f (← opds a.toList) (← opds b.toList)
  | .makeInterface t x => do
    match ← P.underlying t with
    | .interface _ => none
    | _ => return .mkif t (← opd x)
  | .call c => match c.callee with
    | .builtin .len => do
      let t ← c.argTypes[0]?
      match c.args.toList with
      | [x] => do
        let d ← P.underlying t
        if isLenD d = 0 then none else return .len (isLenD d) (← opd x)
      | _ => none
    | .builtin .max => do
      match ← opds c.args.toList with
      | x :: xs => return .mx false x xs
      | _ => none
    | .builtin .min => do
      match ← opds c.args.toList with
      | x :: xs => return .mx true x xs
      | _ => none
    | .builtin .append => do
      match c.argTypes.toList, c.args.toList with
      | [st, xt], [x, y] => do
        match ← P.underlying st, ← P.underlying xt with
        | .slice e, .slice _ => do
          let (i, _) ← zeroOf P e
          if 0 < i.size ∧ 0 < i.bytes then return .app i.size i.bytes (← opd x) (← opd y) else none
        | _, _ => none
      | _, _ => none
    | _ => none
  | _ => none


theorem opds_all {σ : Names} {e : Opd → Val} {ev : Operand → Value} (he : ∀ x y, opd x = some y → VRel σ (e y) (ev x)) : ∀ {xs : List Operand} {ys : List Opd}, opds xs = some ys →
    (ys.map e).length = (xs.map ev).length ∧ ∀ (j : Nat) (v : Val) (c : Value), (ys.map e)[j]? = some v → (xs.map ev)[j]? = some c → VRel σ v c
  | [], ys, hy => by cases hy; simp
  | x :: r, ys, hy => by
    simp only [opds] at hy
    cases h1 : opd x with
    | none => simp [h1] at hy
    | some y =>
      cases h2 : opds r with
      | none => simp [h1, h2] at hy
      | some m =>
        simp [h1, h2] at hy
        subst hy
        obtain ⟨p, q⟩ := opds_all he h2
        refine ⟨by simpa using p, fun j v c hj hc => ?_⟩
        cases j with
        | zero => simp at hj hc; subst hj; subst hc; exact he _ _ h1
        | succ j => exact q j v c (by simpa using hj) (by simpa using hc)

theorem all_one {v : Val} {l : List Val} (h : v.cells? = some l) : l.all Val.one = true := by
  have single : v.one = true → l = [v] → l.all Val.one = true := by
    rintro h1 rfl
    simp [h1]
  cases v with
  | agg cs =>
    simp only [Val.cells?] at h
    split at h
    · cases h; assumption
    · cases h
  | u => simp [Val.cells?, Val.one] at h
  | tup vs => simp [Val.cells?, Val.one] at h
  | _ => exact single rfl (by simp [Val.cells?, Val.one] at h; exact h.symm)

/-- EACH OPERATION THAT IS COVERED COMES TO WHAT THE ABSTRACT ONE TELLS. -/
theorem comp_ok {P : Program} {e : Opd → Val} {ev : Operand → Value} {σ : Names} {H : Heap} {w : World} (he : ∀ x y, opd x = some y → VRel σ (e y) (ev x)) (hce : ∀ v, e (.c v) = v) (r : Rel σ H w)
    {o : Oper} {io : IOp} (hc : comp P o = some io) {v : Val} {H' : Heap} (hs : io.step e H = some (v, H')) : RunOk P (execOp ev o) σ H w v H' := by
  obtain ⟨dst, op, type, pos, after, guard⟩ := o
  unfold comp at hc
  cases op <;> simp only [] at hc
  case move x =>
    obtain ⟨y, h1, rfl⟩ := Option.map_eq_some_iff.1 hc
    cases hs
    exact RunOk.quiet r rfl (he _ _ h1)
  case assign x =>
    obtain ⟨y, h1, rfl⟩ := Option.map_eq_some_iff.1 hc
    cases hs
    exact RunOk.quiet r rfl (he _ _ h1)
  case pick c a b =>
    obtain ⟨c', h1, hc⟩ := Option.bind_eq_some_iff.1 hc
    obtain ⟨a', h2, hc⟩ := Option.bind_eq_some_iff.1 hc
    obtain ⟨b', h3, hc⟩ := Option.bind_eq_some_iff.1 hc
    cases hc
    have hcr := he _ _ h1
    simp only [IOp.step] at hs
    split at hs
    · rename_i t ht
      cases hs
      rw [ht] at hcr
      refine RunOk.quiet (c := if t then ev a else ev b) r ?_ ?_
      · generalize hq : ev c = q at hcr
        cases hcr
        simp [execOp, hq, asBool]
      · cases t
        · exact he _ _ h3
        · exact he _ _ h2
    · cases hs
  case alloc t =>
    obtain ⟨⟨i, zc⟩, h1, hc⟩ := Option.bind_eq_some_iff.1 hc
    cases hc
    obtain ⟨z, zv, g1, g2, g3, g4, g5⟩ := zeroOf_some h1
    have := all_one g4
    simp only [IOp.step, hce, Val.cells?, this, if_true] at hs
    cases hs
    exact (alloc_alloc g1 g2 (ofValue_rel σ g3) g4).run r
  case box t x =>
    obtain ⟨y, h1, rfl⟩ := Option.map_eq_some_iff.1 hc
    simp only [IOp.step] at hs
    split at hs
    · cases hs; rename_i hl; exact (alloc_box (he _ _ h1) hl).run r
    · cases hs
  case build t parts =>
    obtain ⟨⟨i, zc⟩, h1, hc⟩ := Option.bind_eq_some_iff.1 hc
    obtain ⟨d, h2, hc⟩ := Option.bind_eq_some_iff.1 hc
    obtain ⟨z, zv, g1, g2, g3, g4, g5⟩ := zeroOf_some h1
    split at hc
    · rename_i fs
      obtain ⟨pl, h3, hc⟩ := Option.bind_eq_some_iff.1 hc
      obtain ⟨ps, h4, hc⟩ := Option.bind_eq_some_iff.1 hc
      cases hc
      simp only [IOp.step] at hs
      split at hs
      · rename_i l hl
        split at hs
        · rename_i hb
          cases hs
          exact ok_build r g1 g2 g3 g4 (.inl ⟨fs, pl, h2, h3, rfl⟩) he h4 hl hb
        · cases hs
      · cases hs
    · rename_i n el
      obtain ⟨ie, h3, hc⟩ := Option.bind_eq_some_iff.1 hc
      obtain ⟨ps, h4, hc⟩ := Option.bind_eq_some_iff.1 hc
      cases hc
      simp only [IOp.step] at hs
      split at hs
      · rename_i l hl
        split at hs
        · rename_i hb
          cases hs
          exact ok_build r g1 g2 g3 g4 (.inr ⟨n, el, ie, h2, h3, rfl⟩) he h4 hl hb
        · cases hs
      · cases hs
    · cases hc
  case buildSlice t n parts =>
    obtain ⟨d, h1, hc⟩ := Option.bind_eq_some_iff.1 hc
    split at hc
    · rename_i el
      obtain ⟨⟨i, zc⟩, h2, hc⟩ := Option.bind_eq_some_iff.1 hc
      obtain ⟨z, zv, g1, g2, g3, g4, g5⟩ := zeroOf_some h2
      simp only [] at hc
      split at hc
      · rename_i hn
        obtain ⟨ps, h3, hc⟩ := Option.bind_eq_some_iff.1 hc
        cases hc
        simp only [IOp.step] at hs
        split at hs
        · rename_i l hl
          split at hs
          · rename_i hb
            cases hs
            exact (alloc_bslice h1 g1 g2 g3 g4 g5 hn he h3 hl hb).run r
          · cases hs
        · cases hs
      · cases hc
    · cases hc
  case load t a =>
    obtain ⟨d, h1, hc⟩ := Option.bind_eq_some_iff.1 hc
    obtain ⟨y, h2, hc⟩ := Option.bind_eq_some_iff.1 hc
    split at hc
    · rename_i hd
      obtain ⟨i, h3, hc⟩ := Option.bind_eq_some_iff.1 hc
      cases hc
      simp only [IOp.step] at hs
      split at hs
      · rename_i id off hp
        split at hs
        · rename_i c ho
          split at hs
          · cases hs; exact ok_ldn r h1 hd h3 (he _ _ h2) hp ho rfl (by assumption)
          · cases hs
        · rename_i c ho
          split at hs
          · cases hs; exact ok_ldn r h1 hd h3 (he _ _ h2) hp ho rfl (by assumption)
          · cases hs
        · cases hs
      · cases hs
    · rename_i hd
      cases hc
      simp only [IOp.step] at hs
      split at hs
      · rename_i id off hp
        split at hs
        · rename_i c ho
          obtain ⟨u, hu, h5⟩ := Option.map_eq_some_iff.1 hs
          cases h5
          exact ok_ld1 r h1 (by simpa using hd) (he _ _ h2) hp ho rfl hu
        · rename_i c ho
          obtain ⟨u, hu, h5⟩ := Option.map_eq_some_iff.1 hs
          cases h5
          exact ok_ld1 r h1 (by simpa using hd) (he _ _ h2) hp ho rfl hu
        · cases hs
      · cases hs
  case store t a x =>
    obtain ⟨i, h1, hc⟩ := Option.bind_eq_some_iff.1 hc
    obtain ⟨y, h2, hc⟩ := Option.bind_eq_some_iff.1 hc
    obtain ⟨z, h3, hc⟩ := Option.bind_eq_some_iff.1 hc
    cases hc
    simp only [IOp.step] at hs
    split at hs
    · rename_i id off hp
      split at hs
      · rename_i c ho
        split at hs
        · rename_i l hl
          split at hs
          · rename_i hb
            cases hs
            exact ok_st r h1 (he _ _ h2) (he _ _ h3) hp ho hl hb.1 hb.2
          · cases hs
        · cases hs
      · cases hs
    · cases hs
  case nilCheck x =>
    obtain ⟨y, h1, rfl⟩ := Option.map_eq_some_iff.1 hc
    have hr := he _ _ h1
    simp only [IOp.step] at hs
    split at hs
    · rename_i id off hp
      cases hs
      rw [hp] at hr
      refine RunOk.quiet (c := ev x) r ?_ hr
      generalize hq : ev x = q at hr
      cases hr
      simp [execOp, hq]
    · rename_i f a b hp
      cases hs
      rw [hp] at hr
      refine RunOk.quiet (c := ev x) r ?_ hr
      generalize hq : ev x = q at hr
      cases hr
      simp [execOp, hq]
    · cases hs
  case binOp op t x y yt =>
    obtain ⟨d, h1, hc⟩ := Option.bind_eq_some_iff.1 hc
    obtain ⟨a, h2, hc⟩ := Option.bind_eq_some_iff.1 hc
    obtain ⟨b, h3, hc⟩ := Option.bind_eq_some_iff.1 hc
    split at hc
    · split at hc
      · cases hc
        simp only [IOp.step] at hs
        split at hs
        · rename_i hk
          obtain ⟨q, hq, h5⟩ := Option.map_eq_some_iff.1 hs
          cases h5
          exact ok_eqn (neg := false) r h1 x y (he _ _ h2) (he _ _ h3) hq hk
        · cases hs
      · cases hc
        simp only [IOp.step] at hs
        split at hs
        · rename_i hk
          obtain ⟨q, hq, h5⟩ := Option.map_eq_some_iff.1 hs
          cases h5
          exact ok_eqn (neg := true) r h1 x y (he _ _ h2) (he _ _ h3) hq hk
        · cases hs
      · cases hc
    · split at hc
      · rename_i hagg
        obtain ⟨ks, h4, hc⟩ := Option.bind_eq_some_iff.1 hc
        obtain ⟨i, h5, hc⟩ := Option.bind_eq_some_iff.1 hc
        split at hc
        · rename_i hz
          split at hc
          · cases hc
            simp only [IOp.step] at hs
            obtain ⟨q, hq, h7⟩ := Option.map_eq_some_iff.1 hs
            cases h7
            exact ok_eqs (neg := false) r h1 hagg h4 h5 hz.1 hz.2 x y (he _ _ h2) (he _ _ h3) hq
          · cases hc
            simp only [IOp.step] at hs
            obtain ⟨q, hq, h7⟩ := Option.map_eq_some_iff.1 hs
            cases h7
            exact ok_eqs (neg := true) r h1 hagg h4 h5 hz.1 hz.2 x y (he _ _ h2) (he _ _ h3) hq
          · cases hc
        · cases hc
      · cases hc
        simp only [IOp.step] at hs
        obtain ⟨q, hq, h5⟩ := Option.map_eq_some_iff.1 hs
        cases h5
        exact ok_ibin r x y (he _ _ h2) (he _ _ h3) hq
  case unOp op t x =>
    obtain ⟨y, h1, rfl⟩ := Option.map_eq_some_iff.1 hc
    simp only [IOp.step] at hs
    obtain ⟨q, hq, h5⟩ := Option.map_eq_some_iff.1 hs
    cases h5
    exact ok_un r (he _ _ h1) hq
  case convert s t x =>
    obtain ⟨d, h1, hc⟩ := Option.bind_eq_some_iff.1 hc
    obtain ⟨d2, h2, hc⟩ := Option.bind_eq_some_iff.1 hc
    split at hc
    · obtain ⟨y, h3, hc⟩ := Option.bind_eq_some_iff.1 hc
      cases hc
      have hr := he _ _ h3
      simp only [IOp.step] at hs
      split at hs
      · rename_i k n hn
        cases hs
        rw [hn] at hr
        exact ok_conv r h1 h2 hr
      · cases hs
    · cases hc
  case makeSlice t l c =>
    obtain ⟨d, h1, hc⟩ := Option.bind_eq_some_iff.1 hc
    split at hc
    · rename_i el
      obtain ⟨⟨i, zc⟩, h2, hc⟩ := Option.bind_eq_some_iff.1 hc
      obtain ⟨y, h3, hc⟩ := Option.bind_eq_some_iff.1 hc
      obtain ⟨x, h4, hc⟩ := Option.bind_eq_some_iff.1 hc
      cases hc
      obtain ⟨z, zv, g1, g2, g3, g4, g5⟩ := zeroOf_some h2
      have hr1 := he _ _ h3
      have hr2 := he _ _ h4
      simp only [IOp.step] at hs
      split at hs
      · rename_i p q e1 e2
        rw [e1] at hr1
        rw [e2] at hr2
        split at hs
        · rename_i hb
          cases hs
          exact (alloc_mksl h1 g1 g2 g3 g4 g5 hr1 hr2 hb.1 hb.2.1 hb.2.2).run r
        · cases hs
      · cases hs
    · cases hc
  case slice t x lo hi mx =>
    cases mx with
    | some m => cases hc
    | none =>
      simp only [] at hc
      obtain ⟨d, h1, hc⟩ := Option.bind_eq_some_iff.1 hc
      split at hc
      · rename_i el
        obtain ⟨i, h2, hc⟩ := Option.bind_eq_some_iff.1 hc
        obtain ⟨y, h3, hc⟩ := Option.bind_eq_some_iff.1 hc
        obtain ⟨lo2, h4, hc⟩ := Option.bind_eq_some_iff.1 hc
        obtain ⟨hi2, h5, hc⟩ := Option.bind_eq_some_iff.1 hc
        cases hc
        have hr := he _ _ h3
        simp only [IOp.step] at hs
        split at hs
        · rename_i id off ln sz' e1
          rw [e1] at hr
          split at hs
          · rename_i l h k1 k2
            split at hs
            · rename_i hb
              obtain ⟨b1, b2, b3, b4⟩ := hb
              subst b1
              cases hs
              exact ok_slice r h1 h2 he h4 h5 hr k1 k2 b2 b3 b4
            · cases hs
          · cases hs
        · rename_i e1
          rw [e1] at hr
          split at hs
          · rename_i l h k1 k2
            split at hs
            · rename_i hb
              obtain ⟨rfl, rfl⟩ := hb
              cases hs
              exact ok_slice_nil r h1 h2 he h4 h5 hr k1 k2
            · cases hs
          · cases hs
        · cases hs
      · obtain ⟨y, h3, hc⟩ := Option.bind_eq_some_iff.1 hc
        obtain ⟨lo2, h4, hc⟩ := Option.bind_eq_some_iff.1 hc
        obtain ⟨hi2, h5, hc⟩ := Option.bind_eq_some_iff.1 hc
        cases hc
        have hr := he _ _ h3
        simp only [IOp.step] at hs
        split at hs
        · rename_i s e1
          rw [e1] at hr
          split at hs
          · rename_i l h k1 k2
            split at hs
            · rename_i hb
              cases hs
              exact ok_slstr r h1 he h4 h5 hr k1 k2 hb.1 hb.2.1 hb.2.2
            · cases hs
          · cases hs
        · cases hs
      · cases hc
  case fieldAddr t x j =>
    obtain ⟨d, h1, hc⟩ := Option.bind_eq_some_iff.1 hc
    split at hc
    · obtain ⟨f, h2, hc⟩ := Option.bind_eq_some_iff.1 hc
      obtain ⟨i, h3, hc⟩ := Option.bind_eq_some_iff.1 hc
      split at hc
      · cases hc
      · rename_i hz
        obtain ⟨y, h4, hc⟩ := Option.bind_eq_some_iff.1 hc
        cases hc
        have hr := he _ _ h4
        simp only [IOp.step] at hs
        split at hs
        · rename_i id off e1
          rw [e1] at hr
          cases hs
          exact ok_fad r h1 h2 h3 hz hr
        · cases hs
    · cases hc
  case field t x j =>
    obtain ⟨d, h1, hc⟩ := Option.bind_eq_some_iff.1 hc
    split at hc
    · obtain ⟨f, h2, hc⟩ := Option.bind_eq_some_iff.1 hc
      obtain ⟨d2, h3, hc⟩ := Option.bind_eq_some_iff.1 hc
      split at hc
      · rename_i hd
        obtain ⟨i, h4, hc⟩ := Option.bind_eq_some_iff.1 hc
        obtain ⟨y, h5, hc⟩ := Option.bind_eq_some_iff.1 hc
        cases hc
        have hr := he _ _ h5
        simp only [IOp.step] at hs
        split at hs
        · rename_i cs e1
          rw [e1] at hr
          split at hs
          · cases hs; exact ok_fldn r h1 h2 h3 hd h4 hr (by assumption)
          · cases hs
        · cases hs
      · rename_i hd
        obtain ⟨y, h5, hc⟩ := Option.bind_eq_some_iff.1 hc
        cases hc
        have hr := he _ _ h5
        simp only [IOp.step] at hs
        split at hs
        · rename_i cs e1
          rw [e1] at hr
          obtain ⟨u, hu, k5⟩ := Option.map_eq_some_iff.1 hs
          cases k5
          exact ok_fld1 r h1 h2 h3 (by simpa using hd) hr hu
        · cases hs
    · cases hc
  case indexAddr t x ix =>
    obtain ⟨d, h1, hc⟩ := Option.bind_eq_some_iff.1 hc
    split at hc
    · obtain ⟨i, h2, hc⟩ := Option.bind_eq_some_iff.1 hc
      obtain ⟨y, h3, hc⟩ := Option.bind_eq_some_iff.1 hc
      obtain ⟨z, h4, hc⟩ := Option.bind_eq_some_iff.1 hc
      cases hc
      have hr := he _ _ h3
      have hr2 := he _ _ h4
      simp only [IOp.step] at hs
      split at hs
      · rename_i e1 e2
        rw [e1] at hr
        rw [e2] at hr2
        split at hs
        · cases hs; exact ok_iad r h1 h2 hr hr2 (by assumption)
        · cases hs
      · cases hs
    · obtain ⟨i, h2, hc⟩ := Option.bind_eq_some_iff.1 hc
      obtain ⟨y, h3, hc⟩ := Option.bind_eq_some_iff.1 hc
      obtain ⟨z, h4, hc⟩ := Option.bind_eq_some_iff.1 hc
      cases hc
      have hr := he _ _ h3
      have hr2 := he _ _ h4
      simp only [IOp.step] at hs
      split at hs
      · rename_i e1 e2
        rw [e1] at hr
        rw [e2] at hr2
        split at hs
        · cases hs; exact ok_iada r h1 h2 hr hr2 (by assumption)
        · cases hs
      · cases hs
    · cases hc
  case index t x ix =>
    obtain ⟨d, h1, hc⟩ := Option.bind_eq_some_iff.1 hc
    split at hc
    · obtain ⟨i, h2, hc⟩ := Option.bind_eq_some_iff.1 hc
      obtain ⟨d2, h5, hc⟩ := Option.bind_eq_some_iff.1 hc
      split at hc
      · rename_i hd
        obtain ⟨y, h3, hc⟩ := Option.bind_eq_some_iff.1 hc
        obtain ⟨z, h4, hc⟩ := Option.bind_eq_some_iff.1 hc
        cases hc
        have hr := he _ _ h3
        have hr2 := he _ _ h4
        simp only [IOp.step] at hs
        split at hs
        · rename_i e1 e2
          rw [e1] at hr
          rw [e2] at hr2
          split at hs
          · rename_i hb
            cases hs; exact ok_ixn r h1 h2 h5 hd hr hr2 ⟨hb.1, hb.2.1⟩ hb.2.2
          · cases hs
        · cases hs
      · rename_i hd
        split at hc
        · rename_i hz
          obtain ⟨y, h3, hc⟩ := Option.bind_eq_some_iff.1 hc
          obtain ⟨z, h4, hc⟩ := Option.bind_eq_some_iff.1 hc
          cases hc
          have hr := he _ _ h3
          have hr2 := he _ _ h4
          simp only [IOp.step] at hs
          split at hs
          · rename_i e1 e2
            rw [e1] at hr
            rw [e2] at hr2
            split at hs
            · rename_i hb
              obtain ⟨u, hu, k5⟩ := Option.map_eq_some_iff.1 hs
              cases k5
              exact ok_ix1 r h1 h2 hz h5 (by simpa using hd) hr hr2 hb hu
            · cases hs
          · cases hs
        · cases hc
    · obtain ⟨y, h3, hc⟩ := Option.bind_eq_some_iff.1 hc
      obtain ⟨z, h4, hc⟩ := Option.bind_eq_some_iff.1 hc
      cases hc
      have hr := he _ _ h3
      have hr2 := he _ _ h4
      simp only [IOp.step] at hs
      split at hs
      · rename_i e1 e2
        rw [e1] at hr
        rw [e2] at hr2
        split at hs
        · rename_i hb
          obtain ⟨u, hu, k5⟩ := Option.map_eq_some_iff.1 hs
          cases k5
          exact ok_ixs r h1 hr hr2 hb hu
        · cases hs
      · cases hs
    · cases hc
  case extract x j =>
    obtain ⟨y, h1, hc⟩ := Option.bind_eq_some_iff.1 hc
    cases hc
    have hr := he _ _ h1
    simp only [IOp.step] at hs
    split at hs
    · rename_i vs e1
      rw [e1] at hr
      obtain ⟨u, hu, k5⟩ := Option.map_eq_some_iff.1 hs
      cases k5
      exact ok_ext r hr hu
    · cases hs
  case entry x =>
    obtain ⟨y, h1, hc⟩ := Option.bind_eq_some_iff.1 hc
    cases hc
    exact ok_ent r (he _ _ h1) hs
  case lookup t x ix ok =>
    obtain ⟨d, h1, hc⟩ := Option.bind_eq_some_iff.1 hc
    split at hc
    · rename_i k el
      obtain ⟨kk, hK, hc⟩ := Option.bind_eq_some_iff.1 hc
      obtain ⟨i, h4, hc⟩ := Option.bind_eq_some_iff.1 hc
      obtain ⟨zc, h5, hc⟩ := Option.bind_eq_some_iff.1 hc
      obtain ⟨z, h6, hc⟩ := Option.bind_eq_some_iff.1 hc
      obtain ⟨y, h7, hc⟩ := Option.bind_eq_some_iff.1 hc
      obtain ⟨iy, h8, hc⟩ := Option.bind_eq_some_iff.1 hc
      cases hc
      exact ok_lkp r h1 hK h4 h5 (ofValue_rel σ h6) (he _ _ h7) (he _ _ h8) hs
    · cases hc
  case makeFunc f a b =>
    obtain ⟨y, h1, hc⟩ := Option.bind_eq_some_iff.1 hc
    obtain ⟨z, h2, hc⟩ := Option.bind_eq_some_iff.1 hc
    cases hc
    cases hs
    obtain ⟨a1, a2⟩ := opds_all he h1
    obtain ⟨b1, b2⟩ := opds_all he h2
    exact ok_mkfn r f (by simpa using a1) (by simpa using b1) (fun j v c p q => a2 j v c p (by simpa using q)) (fun j v c p q => b2 j v c p (by simpa using q))
  case makeInterface t x =>
    obtain ⟨d, h1, hc⟩ := Option.bind_eq_some_iff.1 hc
    split at hc
    · cases hc
    · rename_i hd
      obtain ⟨y, h2, hc⟩ := Option.bind_eq_some_iff.1 hc
      cases hc
      cases hs
      refine ok_mkif r h1 ?_ (he _ _ h2)
      cases d <;> first | rfl | exact absurd rfl (hd _)
  case call c =>
    obtain ⟨callee, args, argTypes⟩ := c
    simp only [] at hc
    split at hc
    · obtain ⟨t, h1, hc⟩ := Option.bind_eq_some_iff.1 hc
      split at hc
      · rename_i x hx
        obtain ⟨d, h2, hc⟩ := Option.bind_eq_some_iff.1 hc
        split at hc
        · cases hc
        · obtain ⟨y, h3, hc⟩ := Option.bind_eq_some_iff.1 hc
          cases hc
          simp only [IOp.step] at hs
          split at hs
          · rename_i hk
            obtain ⟨u, hu, k5⟩ := Option.map_eq_some_iff.1 hs
            cases k5
            obtain rfl : args = #[x] := by rw [← Array.toArray_toList (xs := args), hx]
            have := ok_len (ty := type) r h2 (he _ _ h3) hk hu
            obtain ⟨a, b, w', σ', k1, k2⟩ := this
            refine ⟨a, b, w', σ', ?_, k2⟩
            rw [← k1]
            simp [execOp, resolve, invoke, builtin, Builtin.len_, h1]
          · cases hs
      · cases hc
    · obtain ⟨l, h1, hc⟩ := Option.bind_eq_some_iff.1 hc
      split at hc
      · rename_i y ys
        cases hc
        obtain ⟨a1, a2⟩ := opds_all he h1
        simp only [IOp.step] at hs
        obtain ⟨q, hq, k5⟩ := Option.map_eq_some_iff.1 hs
        cases k5
        have hl : args.toList.map ev = (args.map ev).toList := by simp
        rw [hl] at a1 a2
        cases hz : (args.map ev).toList with
        | nil => rw [hz] at a1; simp at a1
        | cons ca cs =>
          rw [hz] at a1 a2
          obtain ⟨c, g1, g2⟩ := mxs_run (P := P) (w := w) (mn := false) (a2 0 _ _ rfl rfl) (by simpa using a1) (fun j v c p q => a2 (j + 1) v c (by simpa using p) (by simpa using q)) hq
          refine RunOk.quiet r ?_ g1
          simp only [Bool.false_eq_true, if_false] at g2
          simp [execOp, resolve, invoke, builtin, Builtin.max_, hl.trans hz, g2]
      · cases hc
    · obtain ⟨l, h1, hc⟩ := Option.bind_eq_some_iff.1 hc
      split at hc
      · rename_i y ys
        cases hc
        obtain ⟨a1, a2⟩ := opds_all he h1
        simp only [IOp.step] at hs
        obtain ⟨q, hq, k5⟩ := Option.map_eq_some_iff.1 hs
        cases k5
        have hl : args.toList.map ev = (args.map ev).toList := by simp
        rw [hl] at a1 a2
        cases hz : (args.map ev).toList with
        | nil => rw [hz] at a1; simp at a1
        | cons ca cs =>
          rw [hz] at a1 a2
          obtain ⟨c, g1, g2⟩ := mxs_run (P := P) (w := w) (mn := true) (a2 0 _ _ rfl rfl) (by simpa using a1) (fun j v c p q => a2 (j + 1) v c (by simpa using p) (by simpa using q)) hq
          refine RunOk.quiet r ?_ g1
          simp only [if_true] at g2
          simp [execOp, resolve, invoke, builtin, Builtin.min_, hl.trans hz, g2]
      · cases hc
    · split at hc
      · rename_i st xt x y ht hx
        obtain ⟨d1, h1, hc⟩ := Option.bind_eq_some_iff.1 hc
        obtain ⟨d2, h2, hc⟩ := Option.bind_eq_some_iff.1 hc
        split at hc
        · obtain ⟨⟨i, zc⟩, h3, hc⟩ := Option.bind_eq_some_iff.1 hc
          simp only [] at hc
          split at hc
          · rename_i hz
            obtain ⟨a', h4, hc⟩ := Option.bind_eq_some_iff.1 hc
            obtain ⟨b', h5, hc⟩ := Option.bind_eq_some_iff.1 hc
            cases hc
            obtain ⟨z, zv, g1, g2, g3, g4, g5⟩ := zeroOf_some h3
            have T : AppTypes P st xt _ i z := ⟨h1, ⟨_, h2⟩, g1, g2, by have := (zero_rel (σ := σ) g3 g4).1; omega, hz.1, hz.2⟩
            obtain rfl : args = #[x, y] := by rw [← Array.toArray_toList (xs := args), hx]
            obtain rfl : argTypes = #[st, xt] := by rw [← Array.toArray_toList (xs := argTypes), ht]
            simp only [IOp.step] at hs
            split at hs
            · rename_i old new hw1 hw2
              split at hs
              · rename_i hbd
                have fin : ∀ hv, RunOk P (execOp ev ⟨dst, .call ⟨.builtin .append, #[x, y], #[st, xt]⟩, type, pos, after, guard⟩) σ H w v H' := fun hv => by
                  obtain ⟨a, b, w', σ', k1, k2⟩ := ok_app (ty := type) (v := v) (H' := H') r T (he _ _ h4) (he _ _ h5) hw1 hw2 hbd hv
                  refine ⟨a, b, w', σ', ?_, k2⟩
                  rw [← k1]
                  simp [execOp, resolve, invoke, builtin]
                split at hs
                · rename_i e1
                  split at hs
                  · rename_i hz0
                    cases hs; exact fin (.inl ⟨e1, hz0, rfl, rfl⟩)
                  · rename_i hz0
                    cases hs; exact fin (.inr (.inl ⟨e1, hz0, rfl, rfl⟩))
                · rename_i id off ln sz e1
                  split at hs
                  · rename_i c ho
                    cases hs
                    exact fin (.inr (.inr ⟨id, off, ln, sz, c, e1, ho, rfl, rfl⟩))
                  · cases hs
                · cases hs
              · cases hs
            · cases hs
          · cases hc
        · cases hc
      · cases hc
    · cases hc
  all_goals cases hc
/-- What makes one new object: the value under that object's name, and its cells. -/
def IOp.fresh (e : Opd → Val) : IOp → Option ((Nat → Val) × List Val)
  | .box x => match (e x).cells? with
    | some l => some (fun id => .p id 0, l)
    | none => none
  | .bslice sz ln z ps => match partsOf e ps with
    | some l => if l.all (fun p => p.1 + p.2.length ≤ z.length) then some (fun id => .sl id 0 ln sz, padTo z l) else none
    | none => none
  | .mksl sz bytes z l c => match e l, e c with
    | .i _ l, .i _ c =>
      let l' := IntKind.i64.wrap l
      let c' := IntKind.i64.wrap c
      if 0 ≤ l' ∧ l' ≤ c' ∧ (bytes : Int) * c' ≤ 281474976710656 then some (fun id => .sl id 0 l'.toNat sz, mk z l'.toNat) else none
    | _, _ => none
  | _ => none

/-- 0: looks at no object; 1: looks at objects; 2: makes one; 3: changes objects. -/
def IOp.sort : IOp → Nat
  | .ld1 _ | .ldn _ _ | .lkp _ _ _ _ _ | .ent _ => 1
  | .len k _ => if k = 3 then 1 else 0
  | .box _ | .bslice _ _ _ _ | .mksl _ _ _ _ _ => 2
  | .st _ _ _ | .app _ _ _ _ => 3
  | _ => 0

theorem fresh_step {e : Opd → Val} {H : Heap} {io : IOp} {v : Val} {H' : Heap} (hs : io.step e H = some (v, H')) (h2 : io.sort = 2) :
    ∃ f l, io.fresh e = some (f, l) ∧ v = f H.length ∧ H' = H ++ [.rw l] := by
  cases io with
  | box x =>
    simp only [IOp.step] at hs
    split at hs
    · rename_i l hl; cases hs; exact ⟨fun id => .p id 0, l, by simp only [IOp.fresh, hl], rfl, rfl⟩
    · cases hs
  | bslice sz ln z ps =>
    simp only [IOp.step] at hs
    split at hs
    · rename_i l hl
      split at hs
      · rename_i hb; cases hs; exact ⟨fun id => .sl id 0 ln sz, padTo z l, by simp only [IOp.fresh, hl, hb, if_true], rfl, rfl⟩
      · cases hs
    · cases hs
  | mksl sz bytes z l c =>
    simp only [IOp.step] at hs
    split at hs
    · rename_i k1 p k2 q e1 e2
      split at hs
      · rename_i hb; cases hs; exact ⟨fun id => .sl id 0 (IntKind.i64.wrap p).toNat sz, mk z (IntKind.i64.wrap p).toNat, by simp only [IOp.fresh, e1, e2]; rw [if_pos hb], rfl, rfl⟩
      · cases hs
    · cases hs
  | len k x => simp only [IOp.sort] at h2; split at h2 <;> cases h2
  | _ => cases h2

theorem quiet_step {e : Opd → Val} {H : Heap} {io : IOp} {v : Val} {H' : Heap} (hs : io.step e H = some (v, H')) (h2 : io.sort = 0 ∨ io.sort = 1) : H' = H := by
  cases io <;> simp only [IOp.step] at hs <;> first
    | (rcases h2 with h2 | h2 <;> cases h2; done)
    | ((repeat' (split at hs)) <;> first | (cases hs; done) | (cases hs; rfl) | (obtain ⟨_, _, h⟩ := Option.map_eq_some_iff.1 hs; cases h; rfl))

/-- What looks at no object does not depend on them. -/
theorem pure_step {e : Opd → Val} {H K : Heap} {io : IOp} {v : Val} (hs : io.step e H = some (v, H)) (h2 : io.sort = 0) : io.step e K = some (v, K) := by
  cases io <;> simp only [IOp.step] at hs ⊢ <;> first
    | (cases h2; done)
    | (cases hs; rfl)
    | (obtain ⟨_, h, h'⟩ := Option.map_eq_some_iff.1 hs; cases h'; rw [h]; rfl)
    | skip
  case len k x =>
    split at hs
    · rename_i hk
      rw [if_pos hk]
      obtain ⟨q, h, h'⟩ := Option.map_eq_some_iff.1 hs
      cases h'
      simp only [IOp.sort] at h2
      split at h2
      · cases h2
      · have : lenOf (e x) K = some v := by
          unfold lenOf at h ⊢
          split at h <;> first
            | exact h
            | (rename_i id hx; rw [hx] at hk; simp [Val.lenNo] at hk; omega)
            | cases h
        rw [this]; rfl
    · cases hs
  all_goals clear h2
  all_goals repeat' (split at hs)
  all_goals first
    | (cases hs; done)
    | (cases hs; simp_all; done)
    | (obtain ⟨_, h, h'⟩ := Option.map_eq_some_iff.1 hs; cases h'; simp_all; done)
    | skip

def isAl (o : Oper) : Bool :=
  match o.op with
  | .alloc _ | .box _ _ | .buildSlice _ _ _ | .makeSlice _ _ _ => true
  | _ => false

theorem comp_fresh {P : Program} {e : Opd → Val} {ev : Operand → Value} {σ : Names} {w : World} (he : ∀ x y, opd x = some y → VRel σ (e y) (ev x)) (hce : ∀ v, e (.c v) = v)
    {o : Oper} (ha : isAl o = true) {io : IOp} (hc : comp P o = some io) {f : Nat → Val} {l : List Val} (hs : io.fresh e = some (f, l)) : AllocOk P (execOp ev o) σ w f l := by
  obtain ⟨dst, op, type, pos, after, guard⟩ := o
  unfold comp at hc
  cases op <;> first
    | (cases ha; done)
    | simp only [] at hc
  case alloc t =>
    obtain ⟨⟨i, zc⟩, h1, hc⟩ := Option.bind_eq_some_iff.1 hc
    cases hc
    obtain ⟨z, zv, g1, g2, g3, g4, g5⟩ := zeroOf_some h1
    have := all_one g4
    simp only [IOp.fresh, hce, Val.cells?, this, if_true] at hs
    cases hs
    exact alloc_alloc g1 g2 (ofValue_rel σ g3) g4
  case box t x =>
    obtain ⟨y, h1, rfl⟩ := Option.map_eq_some_iff.1 hc
    simp only [IOp.fresh] at hs
    split at hs
    · rename_i hl; cases hs; exact alloc_box (he _ _ h1) hl
    · cases hs
  case buildSlice t n parts =>
    obtain ⟨d, h1, hc⟩ := Option.bind_eq_some_iff.1 hc
    split at hc
    · rename_i el
      obtain ⟨⟨i, zc⟩, h2, hc⟩ := Option.bind_eq_some_iff.1 hc
      obtain ⟨z, zv, g1, g2, g3, g4, g5⟩ := zeroOf_some h2
      simp only [] at hc
      split at hc
      · rename_i hn
        obtain ⟨ps, h3, hc⟩ := Option.bind_eq_some_iff.1 hc
        cases hc
        simp only [IOp.fresh] at hs
        split at hs
        · rename_i l hl
          split at hs
          · rename_i hb
            cases hs
            exact alloc_bslice h1 g1 g2 g3 g4 g5 hn he h3 hl hb
          · cases hs
        · cases hs
      · cases hc
    · cases hc
  case makeSlice t l c =>
    obtain ⟨d, h1, hc⟩ := Option.bind_eq_some_iff.1 hc
    split at hc
    · rename_i el
      obtain ⟨⟨i, zc⟩, h2, hc⟩ := Option.bind_eq_some_iff.1 hc
      obtain ⟨y, h3, hc⟩ := Option.bind_eq_some_iff.1 hc
      obtain ⟨x, h4, hc⟩ := Option.bind_eq_some_iff.1 hc
      cases hc
      obtain ⟨z, zv, g1, g2, g3, g4, g5⟩ := zeroOf_some h2
      have hr1 := he _ _ h3
      have hr2 := he _ _ h4
      simp only [IOp.fresh] at hs
      split at hs
      · rename_i p q e1 e2
        rw [e1] at hr1
        rw [e2] at hr2
        split at hs
        · rename_i hb
          cases hs
          exact alloc_mksl h1 g1 g2 g3 g4 g5 hr1 hr2 hb.1 hb.2.1 hb.2.2
        · cases hs
      · cases hs
    · cases hc
end Go.Proofs.YtmdilnelogechaaDoor.Ev
/- Operations with more than one outcome, and those that write maps. -/
namespace Go.Proofs.YtmdilnelogechaaDoor.Ev
open Go

inductive NOp where
  | mkm (l : Option Opd)
  | mup (kk : KK) (m k x : Opd)
  | men (kk : KK) (z : Val) (m k : Opd)
  | mes (m s x : Opd)
  | mdl (kk : KK) (m k : Opd)
  | rng (x : Opd)
  | nxt (x : Opd)
  deriving Inhabited

/-- The entries that may come next; none of them, if none is left of those that were there when it began. -/
def cands (es : List (Nat × Val × Val)) (since : Nat) (seen : List Nat) : List (Option (Nat × Val × Val)) :=
  (if ((es.filter fun x => !seen.contains x.1).filter fun x => decide (x.1 < since)).isEmpty then [none] else []) ++
    (((es.filter fun x => !seen.contains x.1).filter fun x => decide (x.1 < since)) ++ ((es.filter fun x => !seen.contains x.1).filter fun x => decide (x.1 ≥ since))).map some
def nxtOut (id mid since ck : Nat) (seen : List Nat) (H : Heap) : Option (Nat × Val × Val) → Val × Heap
  | none => (.tup [.b false], H)
  | some x => (.tup [.b true, x.2.1, x.2.2], H.set id (.iter mid since (seen ++ [x.1]) ck))

def NOp.step (e : Opd → Val) (H : Heap) : NOp → Option (List (Val × Heap))
  | .mkm l => match l with
    | none => some [(.m H.length, H ++ [.map [] 0])]
    | some o => match e o with
      | .i _ _ => some [(.m H.length, H ++ [.map [] 0])]
      | _ => none
  | .mup kk m k x => match e m with
    | .m id => match H[id]? with
      | some (.map es ck) => if isK kk (e k) then match findV kk (e k) es 0 with
          | some (some (i, _)) => some [(.u, H.set id (.map (es.set i (((es[i]?).map (·.1)).getD 0, e k, e x)) ck))]
          | some none => some [(.u, H.set id (.map (es ++ [(ck, e k, e x)]) (ck + 1)))]
          | none => none
        else none
      | _ => none
    | _ => none
  | .men kk z m k => match e m with
    | .m id => match H[id]? with
      | some (.map es ck) => if isK kk (e k) then match findV kk (e k) es 0 with
          | some (some (i, v)) => some [(.tup [v, .i .i64 (((es[i]?).map (·.1)).getD 0 : Nat)], H.set id (.map (es.set i (((es[i]?).map (·.1)).getD 0, e k, v)) ck))]
          | some none => some [(.tup [z, .i .i64 ck], H.set id (.map (es ++ [(ck, e k, z)]) (ck + 1)))]
          | none => none
        else none
      | _ => none
    | _ => none
  | .mes m s x => match e m, e s with
    | .m id, .i _ b => match H[id]? with
      | some (.map es ck) => match es.findIdx? (fun y => (y.1 : Int) == b) with
        | some i => match es[i]? with
          | some y => some [(.u, H.set id (.map (es.set i (y.1, y.2.1, e x)) ck))]
          | none => none
        | none => none
      | _ => none
    | _, _ => none
  | .mdl kk m k => match e m with
    | .m id => match H[id]? with
      | some (.map es ck) => if isK kk (e k) then match findV kk (e k) es 0 with
          | some (some (i, _)) => some [(.tup [], H.set id (.map (es.eraseIdx i) ck))]
          | some none => some [(.tup [], H.set id (.map es ck))]
          | none => none
        else none
      | _ => none
    | _ => none
  | .rng x => match e x with
    | .m mid => match H[mid]? with
      | some (.map _ ck) => some [(.p H.length 0, H ++ [.iter mid ck [] ck])]
      | _ => none
    | _ => none
  | .nxt x => match e x with
    | .p id 0 => match H[id]? with
      | some (.iter mid since seen last) => match H[mid]? with
        | some (.map es ck) => if !seen.isEmpty && !es.isEmpty && es.all (fun x => decide (x.1 ≥ last)) then none
          else some ((cands es since seen).map (nxtOut id mid since ck seen H))
        | _ => none
      | _ => none
    | _ => none

def NOp.opds : NOp → List Opd
  | .mkm l => l.toList
  | .mup _ m k x => [m, k, x]
  | .men _ _ m k => [m, k]
  | .mes m s x => [m, s, x]
  | .mdl _ m k => [m, k]
  | .rng x => [x]
  | .nxt x => [x]
theorem nstep_congr {e e' : Opd → Val} {io : NOp} (h : ∀ x ∈ io.opds, e x = e' x) (H : Heap) : io.step e H = io.step e' H := by
  cases io
  case mkm l =>
    cases l with
    | none => rfl
    | some o => simp only [NOp.step, h o (by simp [NOp.opds])]
  all_goals
    simp only [NOp.opds, List.mem_cons, List.not_mem_nil, or_false, forall_eq_or_imp, forall_eq] at h
    simp only [NOp.step, h]

/-- One of the outcomes is what the run comes to. -/
def RunAny (P : Program) (s : Sem Next) (σ : Names) (H : Heap) (w : World) (l : List (Val × Heap)) : Prop := ∃ x ∈ l, RunOk P s σ H w x.1 x.2

/-- A new object that is no row of cells. -/
theorem Rel.allocO {σ : Names} {H : Heap} {w : World} (r : Rel σ H w) {o : AObj} {ob : Obj} {sz : Nat} (hro : o.isro = false) {w' : World} (hw : w'.heap = w.heap.push ob) (hrest : w'.os = w.os ∧ w'.tape = w.tape ∧ w'.output = w.output)
    (hO : ORel (σ.add H.length ⟨w.heap.size, 0, sz⟩) w' o ⟨w.heap.size, 0, sz⟩) :
    Rel (σ.add H.length ⟨w.heap.size, 0, sz⟩) (H ++ [o]) w' ∧ Step σ H w (σ.add H.length ⟨w.heap.size, 0, sz⟩) (H ++ [o]) w' := by
  have hno : σ H.length = none := r.none_at (Nat.le_refl _)
  have hle : σ.le (σ.add H.length ⟨w.heap.size, 0, sz⟩) := Names.le_add hno
  have hold : ∀ bl, bl < w.heap.size → w'.heap[bl]? = w.heap[bl]? := by
    intro bl hb
    rw [hw]
    simp [Array.getElem?_push, Nat.ne_of_lt hb]
  have hsz : w'.heap.size = w.heap.size + 1 := by rw [hw]; simp
  refine r.with ⟨⟨?_, ?_, ?_, ?_⟩, StepM.of ?_ ?_ ?_ ?_ ?_ ?_ hrest ?_⟩
  · intro id lo hs
    by_cases hi : id = H.length
    · subst hi; simp
    · rw [Names.add_ne hi] at hs
      have := r.dom id lo hs
      simp; omega
  · intro id lo q hs ho
    by_cases hi : id = H.length
    · subst hi
      rw [Names.add_same] at hs
      cases hs
      simp at ho
      subst ho
      exact hO
    · rw [Names.add_ne hi] at hs
      have hd := r.dom id lo hs
      rw [List.getElem?_append_left hd] at ho
      exact ((r.obj id lo q hs ho).congr (hold _ (r.blk id lo hs))).mono hle
  · intro id lo hs
    by_cases hi : id = H.length
    · subst hi; rw [Names.add_same] at hs; cases hs; simp [hsz]
    · rw [Names.add_ne hi] at hs
      have := r.blk id lo hs
      omega
  · have hback : ∀ x, x ≠ H.length → x < (H ++ [o]).length → (H ++ [o])[x]? = H[x]? := by
      intro x hx hl
      simp at hl
      rw [List.getElem?_append_left (by omega)]
    intro x y lx ly hx hy hlx hly hb
    by_cases hx1 : x = H.length
    · by_cases hy1 : y = H.length
      · omega
      · rw [Names.add_ne hy1] at hy
        subst hx1
        rw [Names.add_same] at hx; cases hx
        have := r.blk y ly hy
        simp at hb; omega
    · rw [Names.add_ne hx1] at hx
      have hxd := r.dom x lx hx
      by_cases hy1 : y = H.length
      · subst hy1
        rw [Names.add_same] at hy; cases hy
        have := r.blk x lx hx
        simp at hb; omega
      · rw [Names.add_ne hy1] at hy
        have hyd := r.dom y ly hy
        refine r.inj x y lx ly hx hy ?_ ?_ hb
        · obtain ⟨o, h1, h2⟩ := hlx; rw [hback x hx1 (by simp; omega)] at h1; exact ⟨o, h1, h2⟩
        · rcases hly with ⟨o, h1, h2⟩ | ⟨o, h1, h2⟩
          · rw [hback y hy1 (by simp; omega)] at h1; exact .inl ⟨o, h1, h2⟩
          · rw [hback y hy1 (by simp; omega)] at h1; exact .inr ⟨o, h1, h2⟩
  · intro id hi; exact Names.add_ne (by omega)
  · simp
  · omega
  · intro bl hb _; exact hold bl hb
  · intro id lo hi hs hl
    by_cases h1 : id = H.length
    · subst h1; rw [Names.add_same] at hs; cases hs; exact .inl (Nat.le_refl _)
    · rw [Names.add_ne h1] at hs
      exact absurd (r.dom id lo hs) (by omega)
  · rintro id hi ⟨q, h1, h2⟩
    rw [List.getElem?_append_left hi] at h1
    exact ⟨q, h1, h2⟩
  · rintro id ⟨q, h1, h2⟩
    by_cases hi : id < H.length
    · rw [List.getElem?_append_left hi] at h1
      exact ⟨hi, q, h1, h2⟩
    · rw [List.getElem?_append_right (by omega)] at h1
      have : id - H.length = 0 := by
        rcases Nat.eq_zero_or_pos (id - H.length) with h | h
        · exact h
        · rw [List.getElem?_eq_none (by simp; omega)] at h1; cases h1
      rw [this] at h1
      simp at h1
      subst h1
      rw [hro] at h2; cases h2

/-- A live object changed, its block with it. -/
theorem Rel.setO {σ : Names} {H : Heap} {w : World} (r : Rel σ H w) {id : Nat} {lo : Loc} {o o' : AObj} {ob : Obj} (hs : σ id = some lo) (ho : H[id]? = some o) (hl : o.live = true) (hl' : o'.live = true) {w' : World}
    (hw : w'.heap = w.heap.setIfInBounds lo.blk ob) (hrest : w'.os = w.os ∧ w'.tape = w.tape ∧ w'.output = w.output) (hO : ORel σ w' o' lo) : Rel σ (H.set id o') w' ∧ Step σ H w σ (H.set id o') w' := by
  have hidl : id < H.length := r.dom id lo hs
  have hliv : Live H id := ⟨_, ho, hl⟩
  have hsz : w'.heap.size = w.heap.size := by rw [hw]; simp
  have hoth' : ∀ bl, bl ≠ lo.blk → w'.heap[bl]? = w.heap[bl]? := by
    intro bl hb
    rw [hw]; simp [Ne.symm hb]
  have hlen : (H.set id o').length = H.length := by simp
  have hnro : o'.isro = false := by cases o' <;> first | rfl | cases hl'
  have hoth : ∀ y q, y ≠ id → (H.set id o')[y]? = some q → H[y]? = some q := by
    intro y q hy h
    rw [List.getElem?_set_ne (Ne.symm hy)] at h
    exact h
  have hlive : ∀ y, Live (H.set id o') y → Live H y := by
    rintro y ⟨q, h1, h2⟩
    by_cases hy : y = id
    · subst hy; exact hliv
    · exact ⟨q, hoth y q hy h1, h2⟩
  have hro : ∀ y, Ro (H.set id o') y → Ro H y := by
    rintro y ⟨q, h1, h2⟩
    by_cases hy : y = id
    · subst hy
      rw [List.getElem?_set_self (by simpa using hidl)] at h1
      cases h1; rw [hnro] at h2; cases h2
    · exact ⟨q, hoth y q hy h1, h2⟩
  refine r.with ⟨⟨?_, ?_, ?_, ?_⟩, StepM.of (fun _ _ => rfl) (by simp) (by omega) ?_ ?_ (fun y _ h => hlive y h) hrest (fun y h => ⟨by obtain ⟨q, h1, _⟩ := hro y h; exact (List.getElem?_eq_some_iff.1 h1).1, hro y h⟩)⟩
  · intro y l h; rw [hlen]; exact r.dom y l h
  · intro y l q hy h
    by_cases he : y = id
    · subst he
      rw [hs] at hy; cases hy
      rw [List.getElem?_set_self (by simpa using hidl)] at h
      cases h
      exact hO
    · have h' := hoth y q he h
      by_cases hk : q = .dead
      · subst hk; trivial
      · refine (r.obj y l q hy h').congr (hoth' _ ?_)
        intro hb
        have hyl : Live H y ∨ Ro H y := by
          cases q with
          | rw c => exact .inl ⟨_, h', rfl⟩
          | ro c => exact .inr ⟨_, h', rfl⟩
          | map es ck => exact .inl ⟨_, h', rfl⟩
          | iter a b c d => exact .inl ⟨_, h', rfl⟩
          | loop _ _ _ _ _ _ _ => exact .inl ⟨_, h', rfl⟩
          | dead => exact absurd rfl hk
        exact he (r.inj id y lo l hs hy hliv hyl hb.symm).symm
  · intro y l h; rw [hsz]; exact r.blk y l h
  · intro a b la lb ha hb h1 h2 h3
    exact r.inj a b la lb ha hb (hlive a h1) (h2.imp (hlive b) (hro b)) h3
  · intro bl _ hn
    exact hoth' bl (fun h => hn id lo hs hliv h.symm)
  · intro y l hi h _
    exact absurd (r.dom y l h) (by omega)
end Go.Proofs.YtmdilnelogechaaDoor.Ev
/- Operations on maps: the model's do what the abstract ones tell. -/
namespace Go.Proofs.YtmdilnelogechaaDoor.Ev
open Go

def compN (P : Program) (o : Oper) : Option NOp :=
  match o.op with
  | .makeMap t l => match l with
    | none => some (.mkm none)
    | some x => do
      match ← P.underlying t with
      | .map _ _ => return .mkm (some (← opd x))
      | _ => none
  | .mapUpdate t m k x | .insert t m k x => do
    match ← P.underlying t with
    | .map kt _ => return .mup (← KK.at P kt) (← opd m) (← opd k) (← opd x)
    | _ => none
  | .mapEntry t m k => do
    match ← P.underlying t with
    | .map kt el => do
      let i ← P.info? el
      let z ← ofValue (← i.zero)
      return .men (← KK.at P kt) z (← opd m) (← opd k)
    | _ => none
  | .entryStore _ m s x => do return .mes (← opd m) (← opd s) (← opd x)
  | .range t x => do
    match ← P.underlying t with
    | .map _ _ => return .rng (← opd x)
    | _ => none
  | .next it isString => if isString then none else do return .nxt (← opd it)
  | .call c => match c.callee with
    | .builtin .delete => do
      match c.argTypes.toList, c.args.toList with
      | t :: _, [m, k] => do
        match ← P.underlying t with
        | .map kt _ => return .mdl (← KK.at P kt) (← opd m) (← opd k)
        | _ => none
      | _, _ => none
    | _ => none
  | _ => none

theorem RunAny.one {P : Program} {s : Sem Next} {σ : Names} {H : Heap} {w : World} {v : Val} {H' : Heap} (h : RunOk P s σ H w v H') : RunAny P s σ H w [(v, H')] := ⟨_, List.mem_singleton.2 rfl, h⟩

section
variable {P : Program} {σ : Names} {H : Heap} {w : World}

theorem ok_mkm (r : Rel σ H w) {s : Sem Next} (hs : s.run P w = .ok (.value (.map (some w.heap.size))) (w.alloc (.map #[] 0))) : RunOk P s σ H w (.m H.length) (H ++ [.map [] 0]) := by
  obtain ⟨r1, s1⟩ := r.allocO (o := .map [] 0) (ob := .map #[] 0) (sz := 0) (w' := w.alloc (.map #[] 0)) rfl rfl ⟨rfl, rfl, rfl⟩ (MRel.mk' (E := #[]) (MapKept.heap_alloc w _).1 .nil)
  exact ⟨_, _, _, _, hs, .inl rfl, .m (Names.add_same _ _ _), r1, s1⟩

theorem set_heap (r : Rel σ H w) {id : Nat} {lo : Loc} (h : σ id = some lo) (ob : Obj) : (w.heap.setIfInBounds lo.blk ob)[lo.blk]? = some ob := by
  have := r.blk id lo h
  simp [this]

theorem ok_mup (r : Rel σ H w) {t kt el : TypeId} {kk : KK} {e : Opd → Val} {m k x : Opd} {cm ck cx : Value} {l : List (Val × Heap)} (h1 : P.underlying t = some (.map kt el)) (hK : KK.at P kt = some kk)
    (hm : VRel σ (e m) cm) (hk : VRel σ (e k) ck) (hx : VRel σ (e x) cx) (hs : (NOp.mup kk m k x).step e H = some l) : RunAny P (do Instr.mapUpdate t cm ck cx; pure .skip) σ H w l := by
  simp only [NOp.step] at hs
  split at hs
  · rename_i id hn
    rw [hn] at hm
    cases hm with
    | m hid =>
      rename_i lo
      split at hs
      · rename_i es clk ho
        obtain ⟨E, hE, hel⟩ := MRel.el (r.obj id lo _ hid ho)
        split at hs
        · rename_i hkk
          have hik := fun (em : Bool) => run_check (P := P) (w := w) hK hkk hk em
          split at hs
          · rename_i i v hf
            cases hs
            rcases findV_rel hK hkk hk hel hf with ⟨hq, _⟩ | ⟨j, y, e', hq, g1, g2, g3, g4, g5, g6⟩
            · cases hq
            · cases hq
              have hj : E[i]? = some e' := by simpa using g2
              refine .one ?_
              rw [g1]
              obtain ⟨r1, s1⟩ := r.setO (o' := .map (es.set i (y.1, e k, e x)) clk) (ob := .map (E.modify i fun e => { e with key := ck, val := cx }) clk) (w' := { w with heap := w.heap.setIfInBounds lo.blk (.map (E.modify i fun e => { e with key := ck, val := cx }) clk) }) hid ho rfl rfl rfl ⟨rfl, rfl, rfl⟩
                (MRel.mk' (set_heap r hid _) (by rw [Array.toList_modify]; exact hel.set fun q hq => by rw [g2] at hq; cases hq; exact ⟨g6, hk, hx⟩))
              refine ⟨.skip, undef, _, σ, ?_, .inr ⟨rfl, rfl⟩, .u _, r1, s1⟩
              simp [Instr.mapUpdate, run_underlying h1, MapKept.run_getObj_map hE, hik, g4, hj, g3, run_stays hkk hk, MapKept.run_setObj_map _ hE, Result.andThen]
          · rename_i hf
            cases hs
            rcases findV_rel hK hkk hk hel hf with ⟨_, g4⟩ | ⟨j, y, e', hq, _⟩
            · refine .one ?_
              obtain ⟨r1, s1⟩ := r.setO (o' := .map (es ++ [(clk, e k, e x)]) (clk + 1)) (ob := .map (E.push { key := ck, val := cx, born := clk }) (clk + 1)) (w' := { w with heap := w.heap.setIfInBounds lo.blk (.map (E.push { key := ck, val := cx, born := clk }) (clk + 1)) }) hid ho rfl rfl rfl ⟨rfl, rfl, rfl⟩
                (MRel.mk' (set_heap r hid _) (by rw [Array.toList_push]; exact hel.append (.cons rfl hk hx .nil)))
              refine ⟨.skip, undef, _, σ, ?_, .inr ⟨rfl, rfl⟩, .u _, r1, s1⟩
              simp [Instr.mapUpdate, run_underlying h1, MapKept.run_getObj_map hE, hik, g4, MapKept.run_setObj_map _ hE, Result.andThen]
            · cases hq
          · cases hs
        · cases hs
      · cases hs
  · cases hs

theorem tup2 {σ : Names} {a b : Val} {x y : Value} (ha : VRel σ a x) (hb : VRel σ b y) : VRel σ (.tup [a, b]) (.tuple #[x, y]) := by
  refine .tup rfl fun j v c hj hx => ?_
  match j, hj, hx with
  | 0, hj, hx => simp at hj hx; subst hj; subst hx; exact ha
  | 1, hj, hx => simp at hj hx; subst hj; subst hx; exact hb
  | j + 2, hj, _ => simp at hj
theorem tup3 {σ : Names} {a b d : Val} {x y z : Value} (ha : VRel σ a x) (hb : VRel σ b y) (hd : VRel σ d z) : VRel σ (.tup [a, b, d]) (.tuple #[x, y, z]) := by
  refine .tup rfl fun j v c hj hx => ?_
  match j, hj, hx with
  | 0, hj, hx => simp at hj hx; subst hj; subst hx; exact ha
  | 1, hj, hx => simp at hj hx; subst hj; subst hx; exact hb
  | 2, hj, hx => simp at hj hx; subst hj; subst hx; exact hd
  | j + 3, hj, _ => simp at hj

theorem ok_men (r : Rel σ H w) {t kt el : TypeId} {kk : KK} {i : TypeInfo} {zc : Value} {z : Val} {e : Opd → Val} {m k : Opd} {cm ck : Value} {l : List (Val × Heap)} (h1 : P.underlying t = some (.map kt el)) (hK : KK.at P kt = some kk)
    (h4 : P.info? el = some i) (h5 : i.zero = some zc) (hz : ∀ τ, VRel τ z zc) (hm : VRel σ (e m) cm) (hk : VRel σ (e k) ck) (hs : (NOp.men kk z m k).step e H = some l) : RunAny P (do pure (.value (← Instr.mapEntry t cm ck))) σ H w l := by
  simp only [NOp.step] at hs
  split at hs
  · rename_i id hn
    rw [hn] at hm
    cases hm with
    | m hid =>
      rename_i lo
      split at hs
      · rename_i es clk ho
        obtain ⟨E, hE, hel⟩ := MRel.el (r.obj id lo _ hid ho)
        split at hs
        · rename_i hkk
          have hik := fun (em : Bool) => run_check (P := P) (w := w) hK hkk hk em
          split at hs
          · rename_i i v hf
            cases hs
            rcases findV_rel hK hkk hk hel hf with ⟨hq, _⟩ | ⟨j, y, e', hq, g1, g2, g3, g4, g5, g6⟩
            · cases hq
            · cases hq
              have hj : E[i]? = some e' := by simpa using g2
              refine .one ?_
              rw [g1]
              obtain ⟨r1, s1⟩ := r.setO (o' := .map (es.set i (y.1, e k, y.2.2)) clk) (ob := .map (E.modify i fun e => { e with key := ck }) clk) (w' := { w with heap := w.heap.setIfInBounds lo.blk (.map (E.modify i fun e => { e with key := ck }) clk) }) hid ho rfl rfl rfl ⟨rfl, rfl, rfl⟩
                (MRel.mk' (set_heap r hid _) (by rw [Array.toList_modify]; exact hel.set fun q hq => by rw [g2] at hq; cases hq; exact ⟨g6, hk, g5⟩))
              refine ⟨.value (.tuple #[e'.val, .int .i64 e'.born]), _, _, σ, ?_, .inl rfl, tup2 g5 (by rw [g6]; exact .i _ _), r1, s1⟩
              simp [Instr.mapEntry, run_underlying h1, MapKept.run_getObj_map hE, hik, g4, hj, g3, run_stays hkk hk, MapKept.run_setObj_map _ hE, Result.andThen, goInt]
          · rename_i hf
            cases hs
            rcases findV_rel hK hkk hk hel hf with ⟨_, g4⟩ | ⟨j, y, e', hq, _⟩
            · refine .one ?_
              obtain ⟨r1, s1⟩ := r.setO (o' := .map (es ++ [(clk, e k, z)]) (clk + 1)) (ob := .map (E.push { key := ck, val := zc, born := clk }) (clk + 1)) (w' := { w with heap := w.heap.setIfInBounds lo.blk (.map (E.push { key := ck, val := zc, born := clk }) (clk + 1)) }) hid ho rfl rfl rfl ⟨rfl, rfl, rfl⟩
                (MRel.mk' (set_heap r hid _) (by rw [Array.toList_push]; exact hel.append (.cons rfl hk (hz _) .nil)))
              refine ⟨.value (.tuple #[zc, .int .i64 clk]), _, _, σ, ?_, .inl rfl, tup2 (hz _) (.i _ _), r1, s1⟩
              simp [Instr.mapEntry, run_underlying h1, MapKept.run_getObj_map hE, hik, g4, run_zeroValue' h4 h5, MapKept.run_setObj_map _ hE, Result.andThen, goInt]
            · cases hq
          · cases hs
        · cases hs
      · cases hs
  · cases hs

theorem ok_mes (r : Rel σ H w) {t : TypeId} {e : Opd → Val} {m s x : Opd} {cm cs cx : Value} {l : List (Val × Heap)} (hm : VRel σ (e m) cm) (hsr : VRel σ (e s) cs) (hx : VRel σ (e x) cx) (hs : (NOp.mes m s x).step e H = some l) :
    RunAny P (do Instr.entryStore t cm cs cx; pure .skip) σ H w l := by
  simp only [NOp.step] at hs
  split at hs
  · rename_i id kb b hn hb
    rw [hn] at hm
    rw [hb] at hsr
    cases hsr
    cases hm with
    | m hid =>
      rename_i lo
      split at hs
      · rename_i es clk ho
        obtain ⟨E, hE, hel⟩ := MRel.el (r.obj id lo _ hid ho)
        split at hs
        · rename_i i hf
          split at hs
          · rename_i y hy
            cases hs
            refine .one ?_
            have hfi : E.findIdx? (fun e => (e.born : Int) == b) = some i := by
              obtain ⟨E⟩ := E
              rw [List.findIdx?_toArray]
              exact (hel.findIdx fun n => (n : Int) == b).trans hf
            obtain ⟨r1, s1⟩ := r.setO (o' := .map (es.set i (y.1, y.2.1, e x)) clk) (ob := .map (E.modify i fun e => { e with val := cx }) clk) (w' := { w with heap := w.heap.setIfInBounds lo.blk (.map (E.modify i fun e => { e with val := cx }) clk) }) hid ho rfl rfl rfl ⟨rfl, rfl, rfl⟩
              (MRel.mk' (set_heap r hid _) (by rw [Array.toList_modify]; exact hel.set fun q hq => ⟨(hel.get _ _ _ hy hq).1, (hel.get _ _ _ hy hq).2.1, hx⟩))
            refine ⟨.skip, undef, _, σ, ?_, .inr ⟨rfl, rfl⟩, .u _, r1, s1⟩
            simp [Instr.entryStore, MapKept.run_getObj_map hE, asInt, asIntOf, hfi, MapKept.run_setObj_map _ hE, Result.andThen]
          · cases hs
        · cases hs
      · cases hs
  · cases hs

theorem ok_mdl (r : Rel σ H w) {t kt el ty : TypeId} {ts : Array TypeId} {kk : KK} {e : Opd → Val} {m k : Opd} {cm ck : Value} {l : List (Val × Heap)} (h0 : ts[0]? = some t) (h1 : P.underlying t = some (.map kt el)) (hK : KK.at P kt = some kk)
    (hm : VRel σ (e m) cm) (hk : VRel σ (e k) ck) (hs : (NOp.mdl kk m k).step e H = some l) : RunAny P (do pure (.value (← Builtin.delete_ ts ty #[cm, ck]))) σ H w l := by
  simp only [NOp.step] at hs
  split at hs
  · rename_i id hn
    rw [hn] at hm
    cases hm with
    | m hid =>
      rename_i lo
      split at hs
      · rename_i es clk ho
        obtain ⟨E, hE, hel⟩ := MRel.el (r.obj id lo _ hid ho)
        split at hs
        · rename_i hkk
          have hik := fun (em : Bool) => run_check (P := P) (w := w) hK hkk hk em
          split at hs
          · rename_i i v hf
            cases hs
            rcases findV_rel hK hkk hk hel hf with ⟨hq, _⟩ | ⟨j, y, e', hq, g1, g2, g3, g4, g5, g6⟩
            · cases hq
            · cases hq
              refine .one ?_
              obtain ⟨r1, s1⟩ := r.setO (o' := .map (es.eraseIdx i) clk) (ob := .map (E.eraseIdxIfInBounds i) clk) (w' := { w with heap := w.heap.setIfInBounds lo.blk (.map (E.eraseIdxIfInBounds i) clk) }) hid ho rfl rfl rfl ⟨rfl, rfl, rfl⟩
                (MRel.mk' (set_heap r hid _) (by rw [Array.toList_eraseIdxIfInBounds]; exact hel.erase i))
              refine ⟨.value (.tuple #[]), _, _, σ, ?_, .inl rfl, .tup rfl (by simp), r1, s1⟩
              simp [Builtin.delete_, h0, run_underlying h1, MapKept.run_getObj_map hE, hik, g4, MapKept.run_setObj_map _ hE, Result.andThen]
          · rename_i hf
            cases hs
            rcases findV_rel hK hkk hk hel hf with ⟨_, g4⟩ | ⟨j, y, e', hq, _⟩
            · refine .one ?_
              obtain ⟨r1, s1⟩ := r.setO (o' := .map es clk) (ob := .map E clk) (w' := { w with heap := w.heap.setIfInBounds lo.blk (.map E clk) }) hid ho rfl rfl rfl ⟨rfl, rfl, rfl⟩ (MRel.mk' (set_heap r hid _) hel)
              refine ⟨.value (.tuple #[]), _, _, σ, ?_, .inl rfl, .tup rfl (by simp), r1, s1⟩
              simp [Builtin.delete_, h0, run_underlying h1, MapKept.run_getObj_map hE, hik, g4, MapKept.run_setObj_map _ hE, Result.andThen]
            · cases hq
          · cases hs
        · cases hs
      · cases hs
  · cases hs

theorem ok_rng (r : Rel σ H w) {t kt el : TypeId} {e : Opd → Val} {x : Opd} {cx : Value} {l : List (Val × Heap)} (h1 : P.underlying t = some (.map kt el)) (hx : VRel σ (e x) cx) (hs : (NOp.rng x).step e H = some l) :
    RunAny P (do pure (.value (← Instr.range t cx))) σ H w l := by
  simp only [NOp.step] at hs
  split at hs
  · rename_i mid hn
    rw [hn] at hx
    cases hx with
    | m hid =>
      rename_i lo
      split at hs
      · rename_i es clk ho
        cases hs
        obtain ⟨E, hE, hel⟩ := MRel.el (r.obj mid lo _ hid ho)
        refine .one ?_
        have hne : mid ≠ H.length := fun q => by have := r.dom mid lo hid; omega
        obtain ⟨r1, s1⟩ := r.allocO (o := .iter mid clk [] clk) (ob := .mapIter (some lo.blk) clk #[] clk) (sz := 0) (w' := w.alloc (.mapIter (some lo.blk) clk #[] clk)) rfl rfl ⟨rfl, rfl, rfl⟩
          ⟨rfl, lo, by rw [Names.add_ne hne]; exact hid, (MapKept.heap_alloc w _).1⟩
        refine ⟨_, _, _, _, ?_, .inl rfl, .p (id := H.length) (off := 0) (Names.add_same _ _ _), r1, s1⟩
        simp [Instr.range, run_underlying h1, MapKept.run_getObj_map hE, Result.andThen]
      · cases hs
  · cases hs

theorem choose_some (P : Program) (w : World) (n : Nat) (hn : 0 < n) : ∃ (j k : Nat), j < n ∧ (choose (.mapNext n)).run P w = .ok j { w with drawn := k } := by
  by_cases hf : n ≤ 1
  · exact ⟨0, w.drawn, hn, by simp [choose, Sem.run, Question.forced, hf]⟩
  · exact ⟨w.tape w.drawn (.mapNext n) % n, w.drawn + 1, Nat.mod_lt _ hn, by simp [choose, Sem.run, Question.forced, hf, Question.cut]⟩

theorem cands_rel {es : List (Nat × Val × Val)} {E : List MapEntry} (hel : EL σ es E) (since : Nat) (seen : List Nat) :
    ∃ c : List (Option MapEntry), c = (if ((E.filter fun e => !seen.contains e.born).filter fun e => decide (e.born < since)).isEmpty then [none] else []) ++
      (((E.filter fun e => !seen.contains e.born).filter fun e => decide (e.born < since)) ++ ((E.filter fun e => !seen.contains e.born).filter fun e => decide (e.born ≥ since))).map some ∧
    c.length = (cands es since seen).length ∧ 0 < c.length ∧ ∀ (j : Nat) (q : Option MapEntry), c[j]? = some q → ∃ x, (cands es since seen)[j]? = some x ∧
      ((q = none ∧ x = none) ∨ ∃ e y, q = some e ∧ x = some y ∧ e.born = y.1 ∧ VRel σ y.2.1 e.key ∧ VRel σ y.2.2 e.val) := by
  have h1 := hel.filter fun n => !seen.contains n
  have h2 := h1.filter fun n => decide (n < since)
  have h3 := h1.filter fun n => decide (n ≥ since)
  unfold cands
  generalize ((es.filter fun x => !seen.contains x.1).filter fun x => decide (x.1 < since)) = a at *
  generalize ((es.filter fun x => !seen.contains x.1).filter fun x => decide (x.1 ≥ since)) = b at *
  generalize ((E.filter fun e => !seen.contains e.born).filter fun e => decide (e.born < since)) = A at *
  generalize ((E.filter fun e => !seen.contains e.born).filter fun e => decide (e.born ≥ since)) = B at *
  have h4 := h2.append h3
  have hem : a.isEmpty = A.isEmpty := by cases h2 <;> rfl
  have key : ∀ (l : List (Nat × Val × Val)) (L : List MapEntry), EL σ l L → ∀ (j : Nat) (q : Option MapEntry), (L.map some)[j]? = some q → ∃ x, (l.map some)[j]? = some x ∧
      ((q = none ∧ x = none) ∨ ∃ e y, q = some e ∧ x = some y ∧ e.born = y.1 ∧ VRel σ y.2.1 e.key ∧ VRel σ y.2.2 e.val) := by
    intro l L h j q hq
    rw [List.getElem?_map] at hq
    obtain ⟨e, he, rfl⟩ := Option.map_eq_some_iff.1 hq
    have hl := h.len
    have hj : j < l.length := by rw [hl]; exact (List.getElem?_eq_some_iff.1 he).1
    obtain ⟨g1, g2, g3⟩ := h.get j _ e (List.getElem?_eq_getElem hj) he
    exact ⟨some l[j], by rw [List.getElem?_map, List.getElem?_eq_getElem hj]; rfl, .inr ⟨e, _, rfl, rfl, g1, g2, g3⟩⟩
  refine ⟨_, rfl, ?_, ?_, ?_⟩
  · rw [hem]; have := h4.len; simp at this; cases A <;> simp <;> simp at this <;> omega
  · cases A with
    | nil => simp
    | cons x A => simp
  · intro j q hq
    rw [hem]
    cases hA : A.isEmpty with
    | false =>
      simp only [hA, Bool.false_eq_true, if_false, List.nil_append] at hq ⊢
      exact key _ _ h4 j q hq
    | true =>
      simp only [hA, if_true] at hq ⊢
      cases j with
      | zero => simp at hq; subst hq; exact ⟨none, by simp, .inl ⟨rfl, rfl⟩⟩
      | succ j =>
        have := key _ _ h4 j q (by simpa using hq)
        simpa using this

theorem ok_nxt (r : Rel σ H w) {ty : TypeId} {e : Opd → Val} {x : Opd} {cx : Value} {l : List (Val × Heap)} (hx : VRel σ (e x) cx) (hs : (NOp.nxt x).step e H = some l) :
    RunAny P (do pure (.value (← Instr.next cx false ty))) σ H w l := by
  simp only [NOp.step] at hs
  split at hs
  · rename_i id hn
    rw [hn] at hx
    cases hx with
    | p hid =>
      rename_i li
      split at hs
      · rename_i mid since seen last ho
        obtain ⟨hbase, lm, hmid, hI⟩ := r.obj id li _ hid ho
        split at hs
        · rename_i es clk hom
          obtain ⟨E, hE, hel⟩ := MRel.el (r.obj mid lm _ hmid hom)
          split at hs
          · cases hs
          · rename_i htest
            cases hs
            obtain ⟨c, hc, hlen, hpos, hget⟩ := cands_rel hel since seen
            obtain ⟨j, k, hj, hch⟩ := choose_some P w c.length hpos
            have hcj : c[j]? = some c[j] := List.getElem?_eq_getElem hj
            obtain ⟨y, hy, hcase⟩ := hget j _ hcj
            refine ⟨nxtOut id mid since clk seen H y, List.mem_map.2 ⟨y, List.mem_of_getElem? hy, rfl⟩, ?_⟩
            have htest' : (!seen.toArray.isEmpty && !E.isEmpty && E.all fun e => decide (e.born ≥ last)) = false := by
              have e1 : E.all (fun e => decide (e.born ≥ last)) = es.all fun x => decide (x.1 ≥ last) := by rw [← Array.all_toList]; exact hel.all fun n => decide (n ≥ last)
              have e2 : E.isEmpty = es.isEmpty := by rw [← Array.isEmpty_toList]; generalize E.toList = q at hel; cases hel <;> rfl
              have e3 : seen.toArray.isEmpty = seen.isEmpty := by cases seen <;> rfl
              rw [e1, e2, e3]; simpa using htest
            have hcand : ((if (((E.filter fun e => !seen.toArray.contains e.born).filter (·.born < since)).isEmpty) then #[none] else #[]) ++ (((E.filter fun e => !seen.toArray.contains e.born).filter (·.born < since)) ++ ((E.filter fun e => !seen.toArray.contains e.born).filter (·.born ≥ since))).map some) = c.toArray := by
              rw [hc]
              apply Array.toList_inj.1
              have e3 : ∀ n, seen.toArray.contains n = seen.contains n := fun n => by simp
              simp only [Array.toList_append, Array.toList_map, Array.toList_filter, e3]
              congr 1
              rw [← Array.isEmpty_toList]
              simp only [Array.toList_filter]
              split <;> rfl
            have hiter : (getObj li.blk).run P w = .ok (.mapIter (some lm.blk) since seen.toArray last) w := by simp [getObj, Sem.run, hI]
            have hrun : ∀ (q : Option MapEntry), c[j]? = some q → (Instr.next (.pointer (some ⟨li.blk, li.base + 0, none⟩)) false ty).run P w = (match q with
                | some e => .ok (.tuple #[.bool true, e.key, e.val]) { w with drawn := k, heap := w.heap.setIfInBounds li.blk (.mapIter (some lm.blk) since (seen.toArray.push e.born) clk) }
                | none => .ok (.tuple #[.bool false]) { w with drawn := k }) := by
              intro q hq
              rw [hbase]
              simp only [Instr.next, Sem.run_bind, hiter, MapKept.run_getObj_map hE, Result.andThen_ok, htest', Bool.false_eq_true, if_false, hcand, List.size_toArray, hch, List.getElem?_toArray, hq]
              cases q with
              | none => rfl
              | some e =>
                have : (setObj li.blk (.mapIter (some lm.blk) since (seen.toArray.push e.born) clk)).run P { w with drawn := k } = .ok () { w with drawn := k, heap := w.heap.setIfInBounds li.blk (.mapIter (some lm.blk) since (seen.toArray.push e.born) clk) } := by
                  simp [setObj, Sem.run, hI]
                simp only [Sem.run_bind, this, Result.andThen_ok]
                rfl
            rcases hcase with ⟨hq, rfl⟩ | ⟨q, y', hq, rfl, g1, g2, g3⟩
            · rw [hq] at hcj
              refine ⟨.value (.tuple #[.bool false]), _, { w with drawn := k }, σ, ?_, .inl rfl, .tup rfl ?_, r.drawn k, ?_⟩
              · rw [Sem.run_bind, hrun none hcj]; rfl
              · intro i v c hi hc
                match i, hi, hc with
                | 0, hi, hc => simp at hi hc; subst hi; subst hc; exact .b _
                | i + 1, hi, _ => simp at hi
              · exact StepM.of (fun _ _ => rfl) (Nat.le_refl _) (Nat.le_refl _) (fun _ _ _ => rfl) (fun id l hi hs _ => absurd (r.dom id l hs) (by omega)) (fun _ _ h => h) ⟨rfl, rfl, rfl⟩ (fun id ⟨o, h1, h2⟩ => ⟨(List.getElem?_eq_some_iff.1 h1).1, o, h1, h2⟩)
            · rw [hq] at hcj
              obtain ⟨r1, s1⟩ := r.setO (o' := .iter mid since (seen ++ [y'.1]) clk) (ob := .mapIter (some lm.blk) since (seen.toArray.push q.born) clk) (w' := { w with drawn := k, heap := w.heap.setIfInBounds li.blk (.mapIter (some lm.blk) since (seen.toArray.push q.born) clk) }) hid ho rfl rfl rfl ⟨rfl, rfl, rfl⟩
                ⟨hbase, lm, hmid, by rw [g1]; have := set_heap r hid (.mapIter (some lm.blk) since (seen.toArray.push y'.1) clk); simpa using this⟩
              refine ⟨.value (.tuple #[.bool true, q.key, q.val]), _, _, σ, ?_, .inl rfl, tup3 (.b _) g2 g3, r1, s1⟩
              rw [Sem.run_bind, hrun (some q) hcj]; rfl
        · cases hs
      · cases hs
  · cases hs
end

theorem compN_ok {P : Program} {e : Opd → Val} {ev : Operand → Value} {σ : Names} {H : Heap} {w : World} (he : ∀ x y, opd x = some y → VRel σ (e y) (ev x)) (r : Rel σ H w)
    {o : Oper} {io : NOp} (hc : compN P o = some io) {l : List (Val × Heap)} (hs : io.step e H = some l) : RunAny P (execOp ev o) σ H w l := by
  obtain ⟨dst, op, type, pos, after, guard⟩ := o
  unfold compN at hc
  cases op <;> simp only [] at hc
  case makeMap t q =>
    split at hc
    · cases hc
      cases hs
      exact .one (ok_mkm r (by simp [execOp, Instr.makeMap]))
    · rename_i x
      obtain ⟨d, h1, hc⟩ := Option.bind_eq_some_iff.1 hc
      split at hc
      · obtain ⟨y, h2, hc⟩ := Option.bind_eq_some_iff.1 hc
        cases hc
        simp only [NOp.step] at hs
        split at hs
        · rename_i k n hn
          cases hs
          have hx := he _ _ h2
          rw [hn] at hx
          generalize hq : ev x = q at hx
          cases hx
          exact .one (ok_mkm r (by simp [execOp, Instr.makeMap, run_underlying h1, hq, asInt, asIntOf, Result.andThen]))
        · cases hs
      · cases hc
  case mapUpdate t m k x =>
    obtain ⟨d, h1, hc⟩ := Option.bind_eq_some_iff.1 hc
    split at hc
    · obtain ⟨kk, hK, hc⟩ := Option.bind_eq_some_iff.1 hc
      obtain ⟨m', h4, hc⟩ := Option.bind_eq_some_iff.1 hc
      obtain ⟨k', h5, hc⟩ := Option.bind_eq_some_iff.1 hc
      obtain ⟨x', h6, hc⟩ := Option.bind_eq_some_iff.1 hc
      cases hc
      exact ok_mup r h1 hK (he _ _ h4) (he _ _ h5) (he _ _ h6) hs
    · cases hc
  case insert t m k x =>
    obtain ⟨d, h1, hc⟩ := Option.bind_eq_some_iff.1 hc
    split at hc
    · obtain ⟨kk, hK, hc⟩ := Option.bind_eq_some_iff.1 hc
      obtain ⟨m', h4, hc⟩ := Option.bind_eq_some_iff.1 hc
      obtain ⟨k', h5, hc⟩ := Option.bind_eq_some_iff.1 hc
      obtain ⟨x', h6, hc⟩ := Option.bind_eq_some_iff.1 hc
      cases hc
      exact ok_mup r h1 hK (he _ _ h4) (he _ _ h5) (he _ _ h6) hs
    · cases hc
  case mapEntry t m k =>
    obtain ⟨d, h1, hc⟩ := Option.bind_eq_some_iff.1 hc
    split at hc
    · obtain ⟨i, h2, hc⟩ := Option.bind_eq_some_iff.1 hc
      obtain ⟨zc, h3, hc⟩ := Option.bind_eq_some_iff.1 hc
      obtain ⟨z, h4, hc⟩ := Option.bind_eq_some_iff.1 hc
      obtain ⟨kk, h6, hc⟩ := Option.bind_eq_some_iff.1 hc
      obtain ⟨m', h7, hc⟩ := Option.bind_eq_some_iff.1 hc
      obtain ⟨k', h8, hc⟩ := Option.bind_eq_some_iff.1 hc
      cases hc
      exact ok_men r h1 h6 h2 h3 (fun τ => ofValue_rel τ h4) (he _ _ h7) (he _ _ h8) hs
    · cases hc
  case entryStore t m s x =>
    obtain ⟨m', h4, hc⟩ := Option.bind_eq_some_iff.1 hc
    obtain ⟨k', h5, hc⟩ := Option.bind_eq_some_iff.1 hc
    obtain ⟨x', h6, hc⟩ := Option.bind_eq_some_iff.1 hc
    cases hc
    exact ok_mes r (he _ _ h4) (he _ _ h5) (he _ _ h6) hs
  case range t x =>
    obtain ⟨d, h1, hc⟩ := Option.bind_eq_some_iff.1 hc
    split at hc
    · obtain ⟨x', h6, hc⟩ := Option.bind_eq_some_iff.1 hc
      cases hc
      exact ok_rng r h1 (he _ _ h6) hs
    · cases hc
  case next it isString =>
    split at hc
    · cases hc
    · rename_i hf
      obtain ⟨x', h6, hc⟩ := Option.bind_eq_some_iff.1 hc
      cases hc
      simp only [Bool.not_eq_true] at hf
      subst hf
      exact ok_nxt r (he _ _ h6) hs
  case call c =>
    obtain ⟨callee, args, argTypes⟩ := c
    simp only [] at hc
    split at hc
    · split at hc
      · rename_i t ts m k ht ha
        obtain ⟨d, h1, hc⟩ := Option.bind_eq_some_iff.1 hc
        split at hc
        · obtain ⟨kk, hK, hc⟩ := Option.bind_eq_some_iff.1 hc
          obtain ⟨m', h4, hc⟩ := Option.bind_eq_some_iff.1 hc
          obtain ⟨k', h5, hc⟩ := Option.bind_eq_some_iff.1 hc
          cases hc
          have hts : argTypes[0]? = some t := by rw [← Array.getElem?_toList, ht]; rfl
          have hargs : args = #[m, k] := by apply Array.toList_inj.1; simpa using ha
          subst hargs
          have := ok_mdl (ty := type) r hts h1 hK (he _ _ h4) (he _ _ h5) hs
          simpa [execOp, resolve, invoke, builtin] using this
        · cases hc
      · cases hc
    · cases hc
  all_goals cases hc
end Go.Proofs.YtmdilnelogechaaDoor.Ev
/- Regions whose order is the text's, calls. -/
namespace Go.Proofs.YtmdilnelogechaaDoor.Ev
open Go
variable {Df : List Deferred} {ro : Option Nat}
/-- Frames of functions, and of the rounds of a loop over a function. -/
abbrev Fz (ro : Option Nat) : Fence := { Fence.wide with round := ro }
theorem callsIn_fz {P : Program} {n : Nat} {f : FuncId} {args : Array Value} {w : World} {R : Ending → World → Prop} (h : Calls P f args w R) : CallsIn (Fz ro) n P f args w R := (callsIn_wide (n := n)).2 h

def PostM (m : Nat) (σ : Names) (H : Heap) (w : World) (Q : Val → Heap → Prop) : Ending → World → Prop := fun e w' =>
  ∃ v c H' σ', e = .returned c ∧ VRel σ' v c ∧ Q v H' ∧ Rel σ' H' w' ∧ StepM m σ H w σ' H' w'

/-- What a call comes to, whatever world the abstract state stands for; the names below m stay. -/
def SoundM (P : Program) (m : Nat) (f : FuncId) (vs : List Val) (H : Heap) (Q : Val → Heap → Prop) : Prop :=
  m ≤ H.length ∧ ∀ (σ : Names) (w : World) (cs : Array Value), Rel σ H w → LRel σ vs cs →
    (∃ g, (callFunc f cs).run P w = .ok (.enter g cs) w ∧ Calls P g cs w (PostM m σ H w Q)) ∨
    (∃ c w', (callFunc f cs).run P w = .ok (.value c) w' ∧ PostM m σ H w Q (.returned c) w')

abbrev Post (σ : Names) (H : Heap) (w : World) (Q : Val → Heap → Prop) : Ending → World → Prop := PostM H.length σ H w Q
abbrev SoundCall (P : Program) (f : FuncId) (vs : List Val) (H : Heap) (Q : Val → Heap → Prop) : Prop := SoundM P H.length f vs H Q

theorem SoundM.mono {P : Program} {m : Nat} {f : FuncId} {vs : List Val} {H : Heap} {Q R : Val → Heap → Prop} (h : SoundM P m f vs H Q) (hq : ∀ v H', Q v H' → R v H') : SoundM P m f vs H R := by
  refine ⟨h.1, fun σ w cs r l => ?_⟩
  rcases h.2 σ w cs r l with ⟨g, h1, h2⟩ | ⟨c, w', h1, v, c', H', σ', h2, h3, h4, h5⟩
  · exact .inl ⟨g, h1, h2.mono fun e w' ⟨v, c, H', σ', a, b, c', d⟩ => ⟨v, c, H', σ', a, b, hq _ _ c', d⟩⟩
  · exact .inr ⟨c, w', h1, v, c', H', σ', h2, h3, hq _ _ h4, h5⟩

/-- What a round of a loop over a function comes to: the function's call of yield. -/
def YieldM (P : Program) (id : Nat) (vs : List Val) (H : Heap) (K : Val → Heap → Prop) : Prop :=
  ∀ (σ : Names) (w : World) (cs : Array Value) (lo : Loc), Rel σ H w → LRel σ vs cs → σ id = some lo →
    ∃ fn tmps asg body, (Instr.yield lo.blk cs).run P w = .ok (.round lo.blk fn tmps asg body) w ∧
      RoundIn Fence.wide 0 P lo.blk fn tmps asg body w (fun e w' => ∃ v c H' σ', e = .returned c ∧ VRel σ' v c ∧ K v H' ∧ Rel σ' H' w' ∧ Step σ H w σ' H' w')
theorem YieldM.mono {P : Program} {id : Nat} {vs : List Val} {H : Heap} {K K' : Val → Heap → Prop} (h : YieldM P id vs H K) (hk : ∀ v H', K v H' → K' v H') : YieldM P id vs H K' := by
  intro σ w cs lo r l hs
  obtain ⟨fn, tmps, asg, body, h1, h2⟩ := h σ w cs lo r l hs
  exact ⟨fn, tmps, asg, body, h1, h2.mono fun e w' ⟨v, c, H', σ', a, b, c', d⟩ => ⟨v, c, H', σ', a, b, hk _ _ c', d⟩⟩
theorem roundIn_fz {ro : Option Nat} {P : Program} {n : Nat} {l : Nat} {f : FuncId} {tmps : Array Value} {asg body : Code} {w : World} {R : Ending → World → Prop} (h : RoundIn Fence.wide 0 P l f tmps asg body w R) : RoundIn (Fz ro) n P l f tmps asg body w R :=
  ⟨h.1, fun c cs hr => h.2 c cs (room_wide _)⟩

inductive RItem where
  | op (d : Option Nat) (g : Option (Nat × Bool)) (io : IOp)
  | call (d : Option Nat) (g : Option (Nat × Bool)) (f : Opd) (xs : List Opd)
  | any (d : Option Nat) (g : Option (Nat × Bool)) (no : NOp)
  deriving Inhabited

def RItem.d : RItem → Option Nat
  | .op d _ _ => d
  | .call d _ _ _ => d
  | .any d _ _ => d
def RItem.g : RItem → Option (Nat × Bool)
  | .op _ g _ => g
  | .call _ g _ _ => g
  | .any _ g _ => g

def putv (d : Option Nat) (v : Val) (ρ : Env) : Env :=
  match d with
  | some d => (d, v) :: ρ
  | none => ρ

/-- What stands for an item that was not wanted. -/
def skipV : Val := .tup []
theorem skip_rel {σ : Names} : VRel σ skipV undef := .tup rfl (by simp)

def guardOk (g : Option (Nat × Bool)) (ρ : Env) : Option Bool :=
  match g with
  | none => some true
  | some (t, b) => match ρ.get t with
    | .b x => some (x == b)
    | .tup [] => some false
    | _ => none

def EvItem (P : Program) (it : RItem) (e : Opd → Val) (H : Heap) (K : Val → Heap → Prop) : Prop :=
  match it with
  | .op _ _ io => match io.step e H with
    | some (v, H') => K v H'
    | none => False
  | .call _ _ f xs => match e f with
    | .fn (.func f) a b => SoundCall P f (a ++ xs.map e ++ b) H K
    | .yld id => YieldM P id (xs.map e) H K
    | _ => False
  | .any _ _ no => match no.step e H with
    | some l => ∀ x ∈ l, K x.1 x.2
    | none => False

def EvItems (P : Program) : List RItem → Env → Heap → (Env → Heap → Prop) → Prop
  | [], ρ, H, K => K ρ H
  | it :: r, ρ, H, K => match guardOk it.g ρ with
    | some true => EvItem P it (Opd.ev ρ) H (fun v H' => EvItems P r (putv it.d v ρ) H' K)
    | some false => EvItems P r (putv it.d skipV ρ) H K
    | none => False

def dstOk (N : Nat) : Option Nat → Bool
  | none => true
  | some d => d < N

def guardC (ops : Array Oper) : Option (Nat × Bool) → Option (Option (Nat × Bool))
  | none => some none
  | some (j, b) => match (ops[j]?).bind (·.dst) with
    | some d => some (some (d, b))
    | none => none

def compR (P : Program) (N : Nat) (ops : Array Oper) (o : Oper) : Option RItem :=
  if dstOk N o.dst then
    match guardC ops o.guard with
    | some g => match o.op with
      | .call ⟨.value f, args, _⟩ => match opd f, opds args.toList with
        | some f, some xs => some (.call o.dst g f xs)
        | _, _ => none
      | _ => match comp P o with
        | some io => some (.op o.dst g io)
        | none => match compN P o with
          | some no => some (.any o.dst g no)
          | none => none
    | none => none
  else none

theorem compR_d {P : Program} {N : Nat} {ops : Array Oper} {o : Oper} {it : RItem} (h : compR P N ops o = some it) : it.d = o.dst ∧ dstOk N o.dst = true ∧ guardC ops o.guard = some it.g := by
  unfold compR at h
  split at h
  · rename_i hd
    split at h
    · rename_i g hg
      split at h
      · split at h
        · cases h; exact ⟨rfl, hd, hg⟩
        · cases h
      · split at h
        · cases h; exact ⟨rfl, hd, hg⟩
        · split at h
          · cases h; exact ⟨rfl, hd, hg⟩
          · cases h
    · cases h
  · cases h

theorem ARel.putv {N : Nat} {σ : Names} {ρ : Env} {a : Act} (h : ARel N Df σ ρ a) {d : Option Nat} (hd : dstOk N d = true) {v : Val} {c : Value} (hv : VRel σ v c) : ARel N Df σ (putv d v ρ) (a.put d c) := by
  cases d with
  | none => exact h
  | some d => exact h.put (by simpa [dstOk] using hd) hv

theorem guard_rel {N : Nat} {σ : Names} {ρ : Env} {a : Act} (h : ARel N Df σ ρ a) {ops : Array Oper} {o : Oper} {g : Option (Nat × Bool)} (hg : guardC ops o.guard = some g) {b : Bool} (hb : guardOk g ρ = some b) :
    Region.wanted o (yielded ops a.tmps) = b := by
  unfold guardC at hg
  unfold Region.wanted
  split at hg
  · rename_i h0
    cases hg
    rw [h0]
    simp [guardOk] at hb
    subst hb
    rfl
  · rename_i j q h0
    rw [h0]
    split at hg
    · rename_i d hd
      cases hg
      simp only [guardOk] at hb
      split at hb
      · rename_i x hx
        cases hb
        have := h.vals d
        rw [hx] at this
        simp only [yielded, hd, Option.bind_some]
        have hget : a.tmps[d]? = some (.bool x) := by
          rw [Array.getD_eq_getD_getElem?] at this
          cases hq : a.tmps[d]? with
          | none =>
            rw [hq] at this
            simp only [Option.getD_none] at this
            exfalso
            unfold undef at this
            cases this
          | some y =>
            rw [hq] at this
            simp only [Option.getD_some] at this
            cases this
            rfl
        rw [hget]
        cases x <;> cases q <;> rfl
      · rename_i hx
        cases hb
        have := h.vals d
        rw [hx] at this
        simp only [yielded, hd, Option.bind_some]
        rw [Array.getD_eq_getD_getElem?] at this
        cases hq : a.tmps[d]? with
        | none => cases q <;> rfl
        | some y =>
          rw [hq] at this
          simp only [Option.getD_some] at this
          cases this
          cases q <;> rfl
      · cases hb
    · cases hg

theorem compR_nd {P : Program} {N : Nat} {ops : Array Oper} {o : Oper} {it : RItem} (h : compR P N ops o = some it) : ∀ c, o.op ≠ .defer c := by
  intro c hc
  obtain ⟨dst, op, type, pos, after, guard⟩ := o
  simp only at hc
  subst hc
  unfold compR at h
  split at h
  · split at h
    · simp [comp, compN] at h
    · cases h
  · cases h
/-- One operation. -/
theorem item_sound {P : Program} {N : Nat} {ops : Array Oper} {o : Oper} {it : RItem} (hc : compR P N ops o = some it) {σ : Names} {H : Heap} {w : World} (r : Rel σ H w) {a : Act}
    {e : Opd → Val} (he : ∀ x y, opd x = some y → VRel σ (e y) (a.eval x)) (hce : ∀ v, e (.c v) = v) {K : Val → Heap → Prop} (hk : EvItem P it e H K) {next : Act → World → Prop} {Q : Exit → Act → World → Prop}
    (hn : ∀ v c H' σ' w', K v H' → VRel σ' v c → Rel σ' H' w' → Step σ H w σ' H' w' → next (a.put o.dst c) w') : o.wpIn (Fz ro) 0 P a w next Q := by
  have hnd := compR_nd hc
  unfold compR at hc
  split at hc
  · split at hc
    · split at hc
      · rename_i f args at_ hop
        split at hc
        · rename_i f' xs hf hxs
          cases hc
          simp only [EvItem] at hk
          split at hk
          · rename_i g fa fb hfv
            have hfr := he _ _ hf
            rw [hfv] at hfr
            generalize hq : a.eval f = q at hfr
            cases hfr with
            | fn _ ha hb ra rb =>
              rename_i a' b'
              obtain ⟨x1, x2⟩ := opds_all he hxs
              have hl : LRel σ (fa ++ xs.map e ++ fb) (a' ++ args.map a.eval ++ b') := by
                refine ⟨by simp at x1 ⊢; omega, fun j v c hj hcj => ?_⟩
                by_cases h1 : j < (fa ++ xs.map e).length
                · rw [List.getElem?_append_left h1] at hj
                  rw [Array.getElem?_append_left (by simp at x1 h1 ⊢; omega)] at hcj
                  by_cases h2 : j < fa.length
                  · rw [List.getElem?_append_left h2] at hj
                    rw [Array.getElem?_append_left (by omega)] at hcj
                    exact ra j v c hj hcj
                  · rw [List.getElem?_append_right (by omega)] at hj
                    rw [Array.getElem?_append_right (by omega)] at hcj
                    rw [← ha] at hcj
                    exact x2 _ v c hj (by simpa using hcj)
                · rw [List.getElem?_append_right (by omega)] at hj
                  rw [Array.getElem?_append_right (by simp at x1 h1 ⊢; omega)] at hcj
                  have ee : (fa ++ xs.map e).length = (a' ++ args.map a.eval).size := by simp at x1 ⊢; omega
                  rw [ee] at hj
                  exact rb _ v c hj hcj
              have hrun : (execOp a.eval o).run P w = (callFunc g (a' ++ args.map a.eval ++ b')).run P w := by
                obtain ⟨dst, op, type, pos, after, guard⟩ := o
                simp only at hop
                subst hop
                simp [execOp, resolve, Deferred.ofValue, hq, invoke]
              refine ⟨fun _ _ => trivial, ?_⟩
              rw [Oper.semAt_eq _ _ _ hnd, hrun]
              rcases hk.2 σ w _ r hl with ⟨g', h1, h2⟩ | ⟨c, w', h1, v, c', H', σ', h2, h3, h4, h5, h6⟩
              · rw [h1, Oper.uponIn_enter]
                refine ⟨fun h => (by cases h), callsIn_fz (h2.mono ?_)⟩
                rintro _ w' ⟨v, c, H', σ', rfl, h3, h4, h5, h6⟩
                exact hn v c H' σ' w' h4 h3 h5 h6
              · cases h2
                rw [h1, Oper.uponIn_value]
                exact hn v c H' σ' w' h4 h3 h5 h6
          · rename_i id hfv
            have hfr := he _ _ hf
            rw [hfv] at hfr
            generalize hq : a.eval f = q at hfr
            cases hfr with
            | yld hid =>
              rename_i lo
              obtain ⟨x1, x2⟩ := opds_all he hxs
              have hl : LRel σ (xs.map e) (args.map a.eval) := ⟨by simpa using x1, fun j v c hj hcj => x2 j v c hj (by simpa using hcj)⟩
              obtain ⟨fn, tmps, asg, body, h1, h2⟩ := hk σ w _ lo r hl hid
              have hrun : (execOp a.eval o).run P w = (Instr.yield lo.blk (args.map a.eval)).run P w := by
                obtain ⟨dst, op, type, pos, after, guard⟩ := o
                simp only at hop
                subst hop
                simp [execOp, resolve, Deferred.ofValue, hq, invoke]
              refine ⟨fun _ _ => trivial, ?_⟩
              rw [Oper.semAt_eq _ _ _ hnd, hrun, h1, Oper.uponIn_round]
              refine ⟨fun h => (by cases h), roundIn_fz (h2.mono ?_)⟩
              rintro _ w' ⟨v, c, H', σ', rfl, h3, h4, h5, h6⟩
              exact hn v c H' σ' w' h4 h3 h5 h6
          · exact hk.elim
        · cases hc
      · split at hc
        · rename_i io hio
          cases hc
          simp only [EvItem] at hk
          split at hk
          · rename_i v H' hs
            obtain ⟨x, c, w', σ', h1, h2, h3, h4, h5⟩ := comp_ok (ev := a.eval) (e := e) (w := w) he hce r hio hs
            refine ⟨fun _ _ => trivial, ?_⟩
            rw [Oper.semAt_eq _ _ _ hnd, h1]
            rcases h2 with rfl | ⟨rfl, rfl⟩
            · rw [Oper.uponIn_value]; exact hn v c H' σ' w' hk h3 h4 h5
            · rw [Oper.uponIn_skip]; exact hn v undef H' σ' w' hk h3 h4 h5
          · exact hk.elim
        · split at hc
          · rename_i no hno
            cases hc
            simp only [EvItem] at hk
            split at hk
            · rename_i l hs
              obtain ⟨⟨v, H'⟩, hm, x, c, w', σ', h1, h2, h3, h4, h5⟩ := compN_ok (ev := a.eval) (e := e) (w := w) he r hno hs
              refine ⟨fun _ _ => trivial, ?_⟩
              rw [Oper.semAt_eq _ _ _ hnd, h1]
              rcases h2 with rfl | ⟨rfl, rfl⟩
              · rw [Oper.uponIn_value]; exact hn v c H' σ' w' (hk _ hm) h3 h4 h5
              · rw [Oper.uponIn_skip]; exact hn v undef H' σ' w' (hk _ hm) h3 h4 h5
            · exact hk.elim
          · cases hc
    · cases hc
  · cases hc

/-- A list of operations, one behind the other. -/
theorem items_sound {P : Program} {N : Nat} {ops : Array Oper} {K : Env → Heap → Prop} {Q : Exit → Act → World → Prop} :
    ∀ {l : List Nat} {its : List RItem} {σ : Names} {H : Heap} {w : World} {ρ : Env} {a : Act},
    l.length = its.length → (∀ (j i : Nat) (it : RItem), l[j]? = some i → its[j]? = some it → ∃ o, ops[i]? = some o ∧ compR P N ops o = some it) →
    Rel σ H w → ARel N Df σ ρ a → EvItems P its ρ H K →
    (∀ ρ' H' σ' a' w', K ρ' H' → Rel σ' H' w' → ARel N Df σ' ρ' a' → Step σ H w σ' H' w' → Q .normal a' w') → wpOpsIn (Fz ro) 0 P ops Q l a w
  | [], [], σ, H, w, ρ, a, _, _, r, ar, hk, hq => hq ρ H σ a w hk r ar (Step.refl _ _ _ r.dom)
  | [], _ :: _, _, _, _, _, _, h, _, _, _, _, _ => by simp at h
  | _ :: _, [], _, _, _, _, _, h, _, _, _, _, _ => by simp at h
  | i :: l, it :: its, σ, H, w, ρ, a, hl, hc, r, ar, hk, hq => by
    obtain ⟨o, ho, hco⟩ := hc 0 i it rfl rfl
    obtain ⟨hd, hdN, hg⟩ := compR_d hco
    have hrest : ∀ (j i : Nat) (it : RItem), l[j]? = some i → its[j]? = some it → ∃ o, ops[i]? = some o ∧ compR P N ops o = some it :=
      fun j i it h1 h2 => hc (j + 1) i it (by simpa using h1) (by simpa using h2)
    simp only [wpOpsIn, ho]
    simp only [EvItems] at hk
    split at hk
    · rename_i hgo
      rw [guard_rel ar hg hgo, if_pos rfl]
      refine item_sound hco r (fun x y h => opd_rel ar h) (fun _ => rfl) hk ?_
      intro v c H' σ' w' hk' hv hr hs
      have hle : σ.le σ' := hs.le r.dom
      rw [hd] at hk'
      exact items_sound (by simpa using hl) hrest hr ((ar.mono hle).putv hdN hv) hk' (fun ρ' H'' σ'' a' w'' k1 k2 k3 k4 => hq ρ' H'' σ'' a' w'' k1 k2 k3 (hs.trans k4))
    · rename_i hgo
      rw [guard_rel ar hg hgo, if_neg (by simp)]
      rw [hd] at hk
      exact ⟨fun _ _ => trivial, items_sound (by simpa using hl) hrest r (ar.putv hdN skip_rel) hk hq⟩
    · exact hk.elim
end Go.Proofs.YtmdilnelogechaaDoor.Ev
/- A step hangs on its operands alone. -/
namespace Go.Proofs.YtmdilnelogechaaDoor.Ev
open Go

def IOp.opds : IOp → List Opd
  | .mv x => [x]
  | .pick c a b => [c, a, b]
  | .box x => [x]
  | .build _ ps => ps.map (·.2.2)
  | .bslice _ _ _ ps => ps.map (·.2.2)
  | .ld1 a => [a]
  | .ldn _ a => [a]
  | .st _ a x => [a, x]
  | .nilchk x => [x]
  | .ibin _ x y => [x, y]
  | .eqn _ _ x y => [x, y]
  | .eqs _ _ x y => [x, y]
  | .un _ x => [x]
  | .conv _ x => [x]
  | .mksl _ _ _ l c => [l, c]
  | .slice _ x lo hi => x :: (lo.toList ++ hi.toList)
  | .slstr x lo hi => x :: (lo.toList ++ hi.toList)
  | .fad _ x => [x]
  | .fld1 _ x => [x]
  | .fldn _ _ x => [x]
  | .iad _ x i => [x, i]
  | .iada _ _ x i => [x, i]
  | .ix1 _ x i => [x, i]
  | .ixn _ _ x i => [x, i]
  | .ixs x i => [x, i]
  | .ext x _ => [x]
  | .len _ x => [x]
  | .mx _ x xs => x :: xs
  | .app _ _ x y => [x, y]
  | .mkfn _ a b => a ++ b
  | .mkif _ x => [x]
  | .lkp _ _ _ x ix => [x, ix]
  | .ent x => [x]

theorem partsOf_congr {e e' : Opd → Val} : ∀ {ps : List (Nat × Nat × Opd)}, (∀ x ∈ ps.map (·.2.2), e x = e' x) → partsOf e ps = partsOf e' ps
  | [], _ => rfl
  | (o, n, x) :: r, h => by
    simp only [partsOf]
    rw [h x (by simp), partsOf_congr (ps := r) (fun y hy => h y (by simp at hy ⊢; exact .inr hy))]

theorem bnd_congr {e e' : Opd → Val} {d : Nat} {o : Option Opd} (h : ∀ x ∈ o.toList, e x = e' x) : bnd e d o = bnd e' d o := by
  cases o with
  | none => rfl
  | some x => simp only [bnd, h x (by simp)]

theorem step_congr {e e' : Opd → Val} {io : IOp} (h : ∀ x ∈ io.opds, e x = e' x) (H : Heap) : io.step e H = io.step e' H := by
  cases io
  case build z ps => simp only [IOp.step, partsOf_congr h]
  case bslice sz ln z ps => simp only [IOp.step, partsOf_congr h]
  case slice sz x lo hi =>
    have h1 := h x (by simp [IOp.opds])
    have h2 : ∀ d, bnd e d lo = bnd e' d lo := fun d => bnd_congr fun y hy => h y (by simp [IOp.opds] at hy ⊢; exact .inr (.inl hy))
    have h3 : ∀ d, bnd e d hi = bnd e' d hi := fun d => bnd_congr fun y hy => h y (by simp [IOp.opds] at hy ⊢; exact .inr (.inr hy))
    simp only [IOp.step, h1, h2, h3]
  case slstr x lo hi =>
    have h1 := h x (by simp [IOp.opds])
    have h2 : ∀ d, bnd e d lo = bnd e' d lo := fun d => bnd_congr fun y hy => h y (by simp [IOp.opds] at hy ⊢; exact .inr (.inl hy))
    have h3 : ∀ d, bnd e d hi = bnd e' d hi := fun d => bnd_congr fun y hy => h y (by simp [IOp.opds] at hy ⊢; exact .inr (.inr hy))
    simp only [IOp.step, h1, h2, h3]
  case mx mn x xs =>
    have h1 := h x (by simp [IOp.opds])
    have h2 : xs.map e = xs.map e' := List.map_congr_left fun y hy => h y (by simp [IOp.opds, hy])
    simp only [IOp.step, h1, h2]
  case mkfn f a b =>
    have h1 : a.map e = a.map e' := List.map_congr_left fun y hy => h y (by simp [IOp.opds, hy])
    have h2 : b.map e = b.map e' := List.map_congr_left fun y hy => h y (by simp [IOp.opds, hy])
    simp only [IOp.step, h1, h2]
  all_goals
    simp only [IOp.opds, List.mem_cons, List.not_mem_nil, or_false, forall_eq_or_imp, forall_eq] at h
    simp only [IOp.step, h]

theorem fresh_congr {e e' : Opd → Val} {io : IOp} (h : ∀ x ∈ io.opds, e x = e' x) : io.fresh e = io.fresh e' := by
  cases io
  case bslice sz ln z ps => simp only [IOp.fresh, partsOf_congr h]
  case box x => simp only [IOp.fresh, h x (by simp [IOp.opds])]
  case mksl sz bytes z l c => simp only [IOp.fresh, h l (by simp [IOp.opds]), h c (by simp [IOp.opds])]
  all_goals rfl

def RItem.opds : RItem → List Opd
  | .op _ _ io => io.opds
  | .call _ _ f xs => f :: xs
  | .any _ _ no => no.opds

theorem item_congr {P : Program} {e e' : Opd → Val} {it : RItem} (h : ∀ x ∈ it.opds, e x = e' x) {H : Heap} {K : Val → Heap → Prop} (hk : EvItem P it e H K) : EvItem P it e' H K := by
  cases it with
  | op d g io => simp only [EvItem] at hk ⊢; rw [← step_congr h H]; exact hk
  | call d g f xs =>
    have h1 := h f (by simp [RItem.opds])
    have h2 : xs.map e = xs.map e' := List.map_congr_left fun y hy => h y (by simp [RItem.opds, hy])
    simp only [EvItem] at hk ⊢
    rw [← h1, ← h2]
    exact hk
  | any d g no => simp only [EvItem] at hk ⊢; rw [← nstep_congr h H]; exact hk

/-- What reads an object reads it still where there are more of them. -/
theorem read_grow {e : Opd → Val} {H : Heap} {io : IOp} {v : Val} (h1 : io.sort = 1) (hs : io.step e H = some (v, H)) (o : AObj) : io.step e (H ++ [o]) = some (v, H ++ [o]) := by
  have app : ∀ {id : Nat} {x : AObj}, H[id]? = some x → (H ++ [o])[id]? = some x := by
    intro id x h
    have hid : id < H.length := by
      rcases Nat.lt_or_ge id H.length with h' | h'
      · exact h'
      · rw [List.getElem?_eq_none h'] at h; cases h
    rw [List.getElem?_append_left hid]; exact h
  cases io <;> first
    | (cases h1; done)
    | simp only [IOp.step] at hs ⊢
  case ld1 a =>
    split at hs
    · split at hs
      · rename_i c ho
        obtain ⟨u, hu, h5⟩ := Option.map_eq_some_iff.1 hs
        cases h5
        rw [app ho]; simp [hu]
      · rename_i c ho
        obtain ⟨u, hu, h5⟩ := Option.map_eq_some_iff.1 hs
        cases h5
        rw [app ho]; simp [hu]
      · cases hs
    · cases hs
  case ldn n a =>
    split at hs
    · split at hs
      · rename_i c ho
        split at hs
        · rename_i hb; cases hs; rw [app ho]; simp [hb]
        · cases hs
      · rename_i c ho
        split at hs
        · rename_i hb; cases hs; rw [app ho]; simp [hb]
        · cases hs
      · cases hs
    · cases hs
  case len k x =>
    split at hs
    · rename_i hk
      rw [if_pos hk]
      obtain ⟨u, hu, h5⟩ := Option.map_eq_some_iff.1 hs
      cases h5
      have : lenOf (e x) (H ++ [o]) = some v := by
        unfold lenOf at hu ⊢
        split at hu
        · exact hu
        · exact hu
        · exact hu
        · exact hu
        · rename_i id hx
          split at hu
          · rename_i es ho
            rw [app ho]; exact hu
          · cases hu
        · cases hu
      rw [this]; rfl
    · cases hs
  case ent x =>
    split at hs
    · split at hs
      · rename_i mid since seen last ho
        split at hs
        · rename_i b es ck hb hom
          rw [app ho]
          simp only [hb, app hom]
          split at hs
          · rename_i hq
            rw [if_pos hq]
            split at hs
            · cases hs; rfl
            · cases hs
          · cases hs
        · cases hs
      · cases hs
    · cases hs
  case lkp kk ok z x ix =>
    split at hs
    · rename_i hk
      rw [if_pos hk]
      split at hs
      · cases hs; rfl
      · rename_i id hx
        split at hs
        · rename_i es ck ho
          rw [app ho]
          simp only []
          split at hs
          · cases hs; rfl
          · cases hs; rfl
          · cases hs
        · cases hs
      · cases hs
    · cases hs
  all_goals (simp only [IOp.sort] at h1; cases h1)
end Go.Proofs.YtmdilnelogechaaDoor.Ev
