/- This text of the evaluator proves: every operation, and a region in order. No condition. -/
import Derived.Test.YthpcdpnolmacpaaEvB
set_option linter.unusedVariables false
set_option linter.unusedSimpArgs false
set_option linter.constructorNameAsVariable false
/- Each operation of the model that is covered: the abstract one, and that both do the same. -/
namespace Go.Proofs.Ythpcdpnolmacpaa.Ev
open Go

def zeroOf (P : Program) (t : TypeId) : Option (TypeInfo × List Val) := do
  let i ← P.info? t
  let z ← i.zero
  let zv ← ofValue z
  let zc ← zv.cells?
  if zc.length = i.size then some (i, zc) else none

theorem zeroOf_some {P : Program} {t : TypeId} {i : TypeInfo} {zc : List Val} (h : zeroOf P t = some (i, zc)) :
    ∃ z zv, P.info? t = some i ∧ i.zero = some z ∧ ofValue z = some zv ∧ zv.cells? = some zc ∧ zc.length = i.size := by
  unfold zeroOf at h
  obtain ⟨i', h1, h⟩ := Option.bind_eq_some_iff.1 h
  obtain ⟨z, h2, h⟩ := Option.bind_eq_some_iff.1 h
  obtain ⟨zv, h3, h⟩ := Option.bind_eq_some_iff.1 h
  obtain ⟨zc', h4, h⟩ := Option.bind_eq_some_iff.1 h
  split at h
  · cases h; exact ⟨z, zv, h1, h2, h3, h4, by assumption⟩
  · cases h

def comp (P : Program) (o : Oper) : Option IOp :=
  match o.op with
  | .move x => (opd x).map .mv
  | .assign x => (opd x).map .mv
  | .pick c a b => do return .pick (← opd c) (← opd a) (← opd b)
  | .alloc e => do
    let (_, zc) ← zeroOf P e
    return .box (.c (.agg zc))
  | .box _ x => (opd x).map .box
  | .build t parts => do
    let (_, zc) ← zeroOf P t
    match ← P.underlying t with
    | .struct fs => do
      let pl ← placesOf P fs.toList
      return .build zc (← partsC (fun i => pl[i]?) parts.toList)
    | .array _ e => do
      let ie ← P.info? e
      return .build zc (← partsC (fun i => some (i * ie.size, ie.size)) parts.toList)
    | _ => none
  | .buildSlice t n parts => do
    match ← P.underlying t with
    | .slice e => do
      let (i, zc) ← zeroOf P e
      if n * i.size ≤ 16777216 then return .bslice i.size n (mk zc n) (← partsC (fun j => some (j * i.size, i.size)) parts.toList) else none
    | _ => none
  | .load t a => do
    let d ← P.underlying t
    let y ← opd a
    if isAggD d then do
      let i ← P.info? t
      return .ldn i.size y
    else return .ld1 y
  | .store t a x => do
    let i ← P.info? t
    return .st i.size (← opd a) (← opd x)
  | .nilCheck x => (opd x).map .nilchk
  | .binOp op t x y _ => do
    let d ← P.underlying t
    let a ← opd x
    let b ← opd y
    if eqKind d ≠ 0 then match op with
      | .eql => return .eqn (eqKind d) false a b
      | .neq => return .eqn (eqKind d) true a b
      | _ => none
    else if isAggD d then do
      let ks ← flatK P 50 t
      let i ← P.info? t
      if i.size = ks.length ∧ P.eqGuardType P.depth t = false then match op with
        | .eql => return .eqs ks false a b
        | .neq => return .eqs ks true a b
        | _ => none
      else none
    else return .ibin op a b
  | .unOp op _ x => (opd x).map (.un op)
  | .convert s t x => do
    let _ ← P.underlying s
    match ← P.underlying t with
    | .int k => return .conv k (← opd x)
    | _ => none
  | .makeSlice t l c => do
    match ← P.underlying t with
    | .slice e => do
      let (i, zc) ← zeroOf P e
      return .mksl i.size i.bytes zc (← opd l) (← opd c)
    | _ => none
  | .slice t x lo hi none => do
    match ← P.underlying t with
    | .slice e => do
      let i ← P.info? e
      return .slice i.size (← opd x) (← oopd lo) (← oopd hi)
    | .string => return .slstr (← opd x) (← oopd lo) (← oopd hi)
    | _ => none
  | .fieldAddr t x j => do
    match ← P.underlying t with
    | .struct fs => do
      let f ← fs[j]?
      let i ← P.info? f.type
      if i.size = 0 then none else return .fad f.offset (← opd x)
    | _ => none
  | .field t x j => do
    match ← P.underlying t with
    | .struct fs => do
      let f ← fs[j]?
      let d ← P.underlying f.type
      if isAggD d then do
        let i ← P.info? f.type
        return .fldn f.offset i.size (← opd x)
      else return .fld1 f.offset (← opd x)
    | _ => none
  | .indexAddr t x ix => do
    match ← P.underlying t with
    | .slice e => do
      let i ← P.info? e
      return .iad i.size (← opd x) (← opd ix)
    | .array m e => do
      let i ← P.info? e
      return .iada i.size m (← opd x) (← opd ix)
    | _ => none
  | .index t x ix => do
    match ← P.underlying t with
    | .array m e => do
      let i ← P.info? e
      let d ← P.underlying e
      if isAggD d then return .ixn i.size m (← opd x) (← opd ix)
      else if i.size = 1 then return .ix1 m (← opd x) (← opd ix) else none
    | .string => return .ixs (← opd x) (← opd ix)
    | _ => none
  | .extract x j => do return .ext (← opd x) j
  | .makeFunc f a b => do return .mkfn f (← opds a.toList) (← opds b.toList)
  | .makeInterface t x => do
    match ← P.underlying t with
    | .interface _ => none
    | _ => return .mkif t (← opd x)
  | .call c => match c.callee with
    | .builtin .len => do
      let t ← c.argTypes[0]?
      match c.args.toList with
      | [x] => do
        let d ← P.underlying t
        if isLenD d = 0 then none else return .len (isLenD d) (← opd x)
      | _ => none
    | .builtin .max => do
      match ← opds c.args.toList with
      | x :: xs => return .mx false x xs
      | _ => none
    | .builtin .min => do
      match ← opds c.args.toList with
      | x :: xs => return .mx true x xs
      | _ => none
    | .builtin .append => do
      match c.argTypes.toList, c.args.toList with
      | [st, xt], [x, y] => do
        match ← P.underlying st, ← P.underlying xt with
        | .slice e, .slice _ => do
          let (i, _) ← zeroOf P e
          if 0 < i.size ∧ 0 < i.bytes then return .app i.size i.bytes (← opd x) (← opd y) else none
        | _, _ => none
      | _, _ => none
    | _ => none
  | _ => none


theorem opds_all {σ : Names} {e : Opd → Val} {ev : Operand → Value} (he : ∀ x y, opd x = some y → VRel σ (e y) (ev x)) : ∀ {xs : List Operand} {ys : List Opd}, opds xs = some ys →
    (ys.map e).length = (xs.map ev).length ∧ ∀ (j : Nat) (v : Val) (c : Value), (ys.map e)[j]? = some v → (xs.map ev)[j]? = some c → VRel σ v c
  | [], ys, hy => by cases hy; simp
  | x :: r, ys, hy => by
    simp only [opds] at hy
    cases h1 : opd x with
    | none => simp [h1] at hy
    | some y =>
      cases h2 : opds r with
      | none => simp [h1, h2] at hy
      | some m =>
        simp [h1, h2] at hy
        subst hy
        obtain ⟨p, q⟩ := opds_all he h2
        refine ⟨by simpa using p, fun j v c hj hc => ?_⟩
        cases j with
        | zero => simp at hj hc; subst hj; subst hc; exact he _ _ h1
        | succ j => exact q j v c (by simpa using hj) (by simpa using hc)

theorem all_one {v : Val} {l : List Val} (h : v.cells? = some l) : l.all Val.one = true := by
  have single : v.one = true → l = [v] → l.all Val.one = true := by
    rintro h1 rfl
    simp [h1]
  cases v with
  | agg cs =>
    simp only [Val.cells?] at h
    split at h
    · cases h; assumption
    · cases h
  | u => simp [Val.cells?, Val.one] at h
  | tup vs => simp [Val.cells?, Val.one] at h
  | _ => exact single rfl (by simp [Val.cells?, Val.one] at h; exact h.symm)

theorem obj_of {H : Heap} {id : Nat} {c : List Val} (h : H[id]? = some (.rw c) ∨ H[id]? = some (.ro c)) : ∃ o, H[id]? = some o ∧ cellsOfObj o = some c := by
  rcases h with h | h <;> exact ⟨_, h, rfl⟩

/-- EACH OPERATION THAT IS COVERED COMES TO WHAT THE ABSTRACT ONE TELLS. -/
theorem comp_ok {P : Program} {e : Opd → Val} {ev : Operand → Value} {σ : Names} {H : Heap} {w : World} (he : ∀ x y, opd x = some y → VRel σ (e y) (ev x)) (hce : ∀ v, e (.c v) = v) (r : Rel σ H w)
    {o : Oper} {io : IOp} (hc : comp P o = some io) {v : Val} {H' : Heap} (hs : io.step e H = some (v, H')) : RunOk P (execOp ev o) σ H w v H' := by
  obtain ⟨dst, op, type, pos, after, guard⟩ := o
  unfold comp at hc
  cases op <;> simp only [] at hc
  case move x =>
    obtain ⟨y, h1, rfl⟩ := Option.map_eq_some_iff.1 hc
    cases hs
    exact RunOk.quiet r rfl (he _ _ h1)
  case assign x =>
    obtain ⟨y, h1, rfl⟩ := Option.map_eq_some_iff.1 hc
    cases hs
    exact RunOk.quiet r rfl (he _ _ h1)
  case pick c a b =>
    obtain ⟨c', h1, hc⟩ := Option.bind_eq_some_iff.1 hc
    obtain ⟨a', h2, hc⟩ := Option.bind_eq_some_iff.1 hc
    obtain ⟨b', h3, hc⟩ := Option.bind_eq_some_iff.1 hc
    cases hc
    have hcr := he _ _ h1
    simp only [IOp.step] at hs
    split at hs
    · rename_i t ht
      cases hs
      rw [ht] at hcr
      refine RunOk.quiet (c := if t then ev a else ev b) r ?_ ?_
      · generalize hq : ev c = q at hcr
        cases hcr
        simp [execOp, hq, asBool]
      · cases t
        · exact he _ _ h3
        · exact he _ _ h2
    · cases hs
  case alloc t =>
    obtain ⟨⟨i, zc⟩, h1, hc⟩ := Option.bind_eq_some_iff.1 hc
    cases hc
    obtain ⟨z, zv, g1, g2, g3, g4, g5⟩ := zeroOf_some h1
    have := all_one g4
    simp only [IOp.step, hce, Val.cells?, this, if_true] at hs
    cases hs
    exact (alloc_alloc g1 g2 (ofValue_rel σ g3) g4).run r
  case box t x =>
    obtain ⟨y, h1, rfl⟩ := Option.map_eq_some_iff.1 hc
    simp only [IOp.step] at hs
    split at hs
    · cases hs; rename_i hl; exact (alloc_box (he _ _ h1) hl).run r
    · cases hs
  case build t parts =>
    obtain ⟨⟨i, zc⟩, h1, hc⟩ := Option.bind_eq_some_iff.1 hc
    obtain ⟨d, h2, hc⟩ := Option.bind_eq_some_iff.1 hc
    obtain ⟨z, zv, g1, g2, g3, g4, g5⟩ := zeroOf_some h1
    split at hc
    · rename_i fs
      obtain ⟨pl, h3, hc⟩ := Option.bind_eq_some_iff.1 hc
      obtain ⟨ps, h4, hc⟩ := Option.bind_eq_some_iff.1 hc
      cases hc
      simp only [IOp.step] at hs
      split at hs
      · rename_i l hl
        split at hs
        · rename_i hb
          cases hs
          exact ok_build r g1 g2 g3 g4 (.inl ⟨fs, pl, h2, h3, rfl⟩) he h4 hl hb
        · cases hs
      · cases hs
    · rename_i n el
      obtain ⟨ie, h3, hc⟩ := Option.bind_eq_some_iff.1 hc
      obtain ⟨ps, h4, hc⟩ := Option.bind_eq_some_iff.1 hc
      cases hc
      simp only [IOp.step] at hs
      split at hs
      · rename_i l hl
        split at hs
        · rename_i hb
          cases hs
          exact ok_build r g1 g2 g3 g4 (.inr ⟨n, el, ie, h2, h3, rfl⟩) he h4 hl hb
        · cases hs
      · cases hs
    · cases hc
  case buildSlice t n parts =>
    obtain ⟨d, h1, hc⟩ := Option.bind_eq_some_iff.1 hc
    split at hc
    · rename_i el
      obtain ⟨⟨i, zc⟩, h2, hc⟩ := Option.bind_eq_some_iff.1 hc
      obtain ⟨z, zv, g1, g2, g3, g4, g5⟩ := zeroOf_some h2
      simp only [] at hc
      split at hc
      · rename_i hn
        obtain ⟨ps, h3, hc⟩ := Option.bind_eq_some_iff.1 hc
        cases hc
        simp only [IOp.step] at hs
        split at hs
        · rename_i l hl
          split at hs
          · rename_i hb
            cases hs
            exact (alloc_bslice h1 g1 g2 g3 g4 g5 hn he h3 hl hb).run r
          · cases hs
        · cases hs
      · cases hc
    · cases hc
  case load t a =>
    obtain ⟨d, h1, hc⟩ := Option.bind_eq_some_iff.1 hc
    obtain ⟨y, h2, hc⟩ := Option.bind_eq_some_iff.1 hc
    split at hc
    · rename_i hd
      obtain ⟨i, h3, hc⟩ := Option.bind_eq_some_iff.1 hc
      cases hc
      simp only [IOp.step] at hs
      split at hs
      · rename_i id off hp
        split at hs
        · rename_i c ho
          split at hs
          · cases hs; exact ok_ldn r h1 hd h3 (he _ _ h2) hp ho rfl (by assumption)
          · cases hs
        · rename_i c ho
          split at hs
          · cases hs; exact ok_ldn r h1 hd h3 (he _ _ h2) hp ho rfl (by assumption)
          · cases hs
        · cases hs
      · cases hs
    · rename_i hd
      cases hc
      simp only [IOp.step] at hs
      split at hs
      · rename_i id off hp
        split at hs
        · rename_i c ho
          obtain ⟨u, hu, h5⟩ := Option.map_eq_some_iff.1 hs
          cases h5
          exact ok_ld1 r h1 (by simpa using hd) (he _ _ h2) hp ho rfl hu
        · rename_i c ho
          obtain ⟨u, hu, h5⟩ := Option.map_eq_some_iff.1 hs
          cases h5
          exact ok_ld1 r h1 (by simpa using hd) (he _ _ h2) hp ho rfl hu
        · cases hs
      · cases hs
  case store t a x =>
    obtain ⟨i, h1, hc⟩ := Option.bind_eq_some_iff.1 hc
    obtain ⟨y, h2, hc⟩ := Option.bind_eq_some_iff.1 hc
    obtain ⟨z, h3, hc⟩ := Option.bind_eq_some_iff.1 hc
    cases hc
    simp only [IOp.step] at hs
    split at hs
    · rename_i id off hp
      split at hs
      · rename_i c ho
        split at hs
        · rename_i l hl
          split at hs
          · rename_i hb
            cases hs
            exact ok_st r h1 (he _ _ h2) (he _ _ h3) hp ho hl hb.1 hb.2
          · cases hs
        · cases hs
      · cases hs
    · cases hs
  case nilCheck x =>
    obtain ⟨y, h1, rfl⟩ := Option.map_eq_some_iff.1 hc
    have hr := he _ _ h1
    simp only [IOp.step] at hs
    split at hs
    · rename_i id off hp
      cases hs
      rw [hp] at hr
      refine RunOk.quiet (c := ev x) r ?_ hr
      generalize hq : ev x = q at hr
      cases hr
      simp [execOp, hq]
    · rename_i f a b hp
      cases hs
      rw [hp] at hr
      refine RunOk.quiet (c := ev x) r ?_ hr
      generalize hq : ev x = q at hr
      cases hr
      simp [execOp, hq]
    · cases hs
  case binOp op t x y yt =>
    obtain ⟨d, h1, hc⟩ := Option.bind_eq_some_iff.1 hc
    obtain ⟨a, h2, hc⟩ := Option.bind_eq_some_iff.1 hc
    obtain ⟨b, h3, hc⟩ := Option.bind_eq_some_iff.1 hc
    split at hc
    · split at hc
      · cases hc
        simp only [IOp.step] at hs
        split at hs
        · rename_i hk
          obtain ⟨q, hq, h5⟩ := Option.map_eq_some_iff.1 hs
          cases h5
          exact ok_eqn (neg := false) r h1 x y (he _ _ h2) (he _ _ h3) hq hk
        · cases hs
      · cases hc
        simp only [IOp.step] at hs
        split at hs
        · rename_i hk
          obtain ⟨q, hq, h5⟩ := Option.map_eq_some_iff.1 hs
          cases h5
          exact ok_eqn (neg := true) r h1 x y (he _ _ h2) (he _ _ h3) hq hk
        · cases hs
      · cases hc
    · split at hc
      · rename_i hagg
        obtain ⟨ks, h4, hc⟩ := Option.bind_eq_some_iff.1 hc
        obtain ⟨i, h5, hc⟩ := Option.bind_eq_some_iff.1 hc
        split at hc
        · rename_i hz
          split at hc
          · cases hc
            simp only [IOp.step] at hs
            obtain ⟨q, hq, h7⟩ := Option.map_eq_some_iff.1 hs
            cases h7
            exact ok_eqs (neg := false) r h1 hagg h4 h5 hz.1 hz.2 x y (he _ _ h2) (he _ _ h3) hq
          · cases hc
            simp only [IOp.step] at hs
            obtain ⟨q, hq, h7⟩ := Option.map_eq_some_iff.1 hs
            cases h7
            exact ok_eqs (neg := true) r h1 hagg h4 h5 hz.1 hz.2 x y (he _ _ h2) (he _ _ h3) hq
          · cases hc
        · cases hc
      · cases hc
        simp only [IOp.step] at hs
        obtain ⟨q, hq, h5⟩ := Option.map_eq_some_iff.1 hs
        cases h5
        exact ok_ibin r x y (he _ _ h2) (he _ _ h3) hq
  case unOp op t x =>
    obtain ⟨y, h1, rfl⟩ := Option.map_eq_some_iff.1 hc
    simp only [IOp.step] at hs
    obtain ⟨q, hq, h5⟩ := Option.map_eq_some_iff.1 hs
    cases h5
    exact ok_un r (he _ _ h1) hq
  case convert s t x =>
    obtain ⟨d, h1, hc⟩ := Option.bind_eq_some_iff.1 hc
    obtain ⟨d2, h2, hc⟩ := Option.bind_eq_some_iff.1 hc
    split at hc
    · obtain ⟨y, h3, hc⟩ := Option.bind_eq_some_iff.1 hc
      cases hc
      have hr := he _ _ h3
      simp only [IOp.step] at hs
      split at hs
      · rename_i k n hn
        cases hs
        rw [hn] at hr
        exact ok_conv r h1 h2 hr
      · cases hs
    · cases hc
  case makeSlice t l c =>
    obtain ⟨d, h1, hc⟩ := Option.bind_eq_some_iff.1 hc
    split at hc
    · rename_i el
      obtain ⟨⟨i, zc⟩, h2, hc⟩ := Option.bind_eq_some_iff.1 hc
      obtain ⟨y, h3, hc⟩ := Option.bind_eq_some_iff.1 hc
      obtain ⟨x, h4, hc⟩ := Option.bind_eq_some_iff.1 hc
      cases hc
      obtain ⟨z, zv, g1, g2, g3, g4, g5⟩ := zeroOf_some h2
      have hr1 := he _ _ h3
      have hr2 := he _ _ h4
      simp only [IOp.step] at hs
      split at hs
      · rename_i p q e1 e2
        rw [e1] at hr1
        rw [e2] at hr2
        split at hs
        · rename_i hb
          cases hs
          exact (alloc_mksl h1 g1 g2 g3 g4 g5 hr1 hr2 hb.1 hb.2.1 hb.2.2).run r
        · cases hs
      · cases hs
    · cases hc
  case slice t x lo hi mx =>
    cases mx with
    | some m => cases hc
    | none =>
      simp only [] at hc
      obtain ⟨d, h1, hc⟩ := Option.bind_eq_some_iff.1 hc
      split at hc
      · rename_i el
        obtain ⟨i, h2, hc⟩ := Option.bind_eq_some_iff.1 hc
        obtain ⟨y, h3, hc⟩ := Option.bind_eq_some_iff.1 hc
        obtain ⟨lo2, h4, hc⟩ := Option.bind_eq_some_iff.1 hc
        obtain ⟨hi2, h5, hc⟩ := Option.bind_eq_some_iff.1 hc
        cases hc
        have hr := he _ _ h3
        simp only [IOp.step] at hs
        split at hs
        · rename_i id off ln sz' e1
          rw [e1] at hr
          split at hs
          · rename_i l h k1 k2
            split at hs
            · rename_i hb
              obtain ⟨b1, b2, b3, b4⟩ := hb
              subst b1
              cases hs
              exact ok_slice r h1 h2 he h4 h5 hr k1 k2 b2 b3 b4
            · cases hs
          · cases hs
        · rename_i e1
          rw [e1] at hr
          split at hs
          · rename_i l h k1 k2
            split at hs
            · rename_i hb
              obtain ⟨rfl, rfl⟩ := hb
              cases hs
              exact ok_slice_nil r h1 h2 he h4 h5 hr k1 k2
            · cases hs
          · cases hs
        · cases hs
      · obtain ⟨y, h3, hc⟩ := Option.bind_eq_some_iff.1 hc
        obtain ⟨lo2, h4, hc⟩ := Option.bind_eq_some_iff.1 hc
        obtain ⟨hi2, h5, hc⟩ := Option.bind_eq_some_iff.1 hc
        cases hc
        have hr := he _ _ h3
        simp only [IOp.step] at hs
        split at hs
        · rename_i s e1
          rw [e1] at hr
          split at hs
          · rename_i l h k1 k2
            split at hs
            · rename_i hb
              cases hs
              exact ok_slstr r h1 he h4 h5 hr k1 k2 hb.1 hb.2.1 hb.2.2
            · cases hs
          · cases hs
        · cases hs
      · cases hc
  case fieldAddr t x j =>
    obtain ⟨d, h1, hc⟩ := Option.bind_eq_some_iff.1 hc
    split at hc
    · obtain ⟨f, h2, hc⟩ := Option.bind_eq_some_iff.1 hc
      obtain ⟨i, h3, hc⟩ := Option.bind_eq_some_iff.1 hc
      split at hc
      · cases hc
      · rename_i hz
        obtain ⟨y, h4, hc⟩ := Option.bind_eq_some_iff.1 hc
        cases hc
        have hr := he _ _ h4
        simp only [IOp.step] at hs
        split at hs
        · rename_i id off e1
          rw [e1] at hr
          cases hs
          exact ok_fad r h1 h2 h3 hz hr
        · cases hs
    · cases hc
  case field t x j =>
    obtain ⟨d, h1, hc⟩ := Option.bind_eq_some_iff.1 hc
    split at hc
    · obtain ⟨f, h2, hc⟩ := Option.bind_eq_some_iff.1 hc
      obtain ⟨d2, h3, hc⟩ := Option.bind_eq_some_iff.1 hc
      split at hc
      · rename_i hd
        obtain ⟨i, h4, hc⟩ := Option.bind_eq_some_iff.1 hc
        obtain ⟨y, h5, hc⟩ := Option.bind_eq_some_iff.1 hc
        cases hc
        have hr := he _ _ h5
        simp only [IOp.step] at hs
        split at hs
        · rename_i cs e1
          rw [e1] at hr
          split at hs
          · cases hs; exact ok_fldn r h1 h2 h3 hd h4 hr (by assumption)
          · cases hs
        · cases hs
      · rename_i hd
        obtain ⟨y, h5, hc⟩ := Option.bind_eq_some_iff.1 hc
        cases hc
        have hr := he _ _ h5
        simp only [IOp.step] at hs
        split at hs
        · rename_i cs e1
          rw [e1] at hr
          obtain ⟨u, hu, k5⟩ := Option.map_eq_some_iff.1 hs
          cases k5
          exact ok_fld1 r h1 h2 h3 (by simpa using hd) hr hu
        · cases hs
    · cases hc
  case indexAddr t x ix =>
    obtain ⟨d, h1, hc⟩ := Option.bind_eq_some_iff.1 hc
    split at hc
    · obtain ⟨i, h2, hc⟩ := Option.bind_eq_some_iff.1 hc
      obtain ⟨y, h3, hc⟩ := Option.bind_eq_some_iff.1 hc
      obtain ⟨z, h4, hc⟩ := Option.bind_eq_some_iff.1 hc
      cases hc
      have hr := he _ _ h3
      have hr2 := he _ _ h4
      simp only [IOp.step] at hs
      split at hs
      · rename_i e1 e2
        rw [e1] at hr
        rw [e2] at hr2
        split at hs
        · cases hs; exact ok_iad r h1 h2 hr hr2 (by assumption)
        · cases hs
      · cases hs
    · obtain ⟨i, h2, hc⟩ := Option.bind_eq_some_iff.1 hc
      obtain ⟨y, h3, hc⟩ := Option.bind_eq_some_iff.1 hc
      obtain ⟨z, h4, hc⟩ := Option.bind_eq_some_iff.1 hc
      cases hc
      have hr := he _ _ h3
      have hr2 := he _ _ h4
      simp only [IOp.step] at hs
      split at hs
      · rename_i e1 e2
        rw [e1] at hr
        rw [e2] at hr2
        split at hs
        · cases hs; exact ok_iada r h1 h2 hr hr2 (by assumption)
        · cases hs
      · cases hs
    · cases hc
  case index t x ix =>
    obtain ⟨d, h1, hc⟩ := Option.bind_eq_some_iff.1 hc
    split at hc
    · obtain ⟨i, h2, hc⟩ := Option.bind_eq_some_iff.1 hc
      obtain ⟨d2, h5, hc⟩ := Option.bind_eq_some_iff.1 hc
      split at hc
      · rename_i hd
        obtain ⟨y, h3, hc⟩ := Option.bind_eq_some_iff.1 hc
        obtain ⟨z, h4, hc⟩ := Option.bind_eq_some_iff.1 hc
        cases hc
        have hr := he _ _ h3
        have hr2 := he _ _ h4
        simp only [IOp.step] at hs
        split at hs
        · rename_i e1 e2
          rw [e1] at hr
          rw [e2] at hr2
          split at hs
          · rename_i hb
            cases hs; exact ok_ixn r h1 h2 h5 hd hr hr2 ⟨hb.1, hb.2.1⟩ hb.2.2
          · cases hs
        · cases hs
      · rename_i hd
        split at hc
        · rename_i hz
          obtain ⟨y, h3, hc⟩ := Option.bind_eq_some_iff.1 hc
          obtain ⟨z, h4, hc⟩ := Option.bind_eq_some_iff.1 hc
          cases hc
          have hr := he _ _ h3
          have hr2 := he _ _ h4
          simp only [IOp.step] at hs
          split at hs
          · rename_i e1 e2
            rw [e1] at hr
            rw [e2] at hr2
            split at hs
            · rename_i hb
              obtain ⟨u, hu, k5⟩ := Option.map_eq_some_iff.1 hs
              cases k5
              exact ok_ix1 r h1 h2 hz h5 (by simpa using hd) hr hr2 hb hu
            · cases hs
          · cases hs
        · cases hc
    · obtain ⟨y, h3, hc⟩ := Option.bind_eq_some_iff.1 hc
      obtain ⟨z, h4, hc⟩ := Option.bind_eq_some_iff.1 hc
      cases hc
      have hr := he _ _ h3
      have hr2 := he _ _ h4
      simp only [IOp.step] at hs
      split at hs
      · rename_i e1 e2
        rw [e1] at hr
        rw [e2] at hr2
        split at hs
        · rename_i hb
          obtain ⟨u, hu, k5⟩ := Option.map_eq_some_iff.1 hs
          cases k5
          exact ok_ixs r h1 hr hr2 hb hu
        · cases hs
      · cases hs
    · cases hc
  case extract x j =>
    obtain ⟨y, h1, hc⟩ := Option.bind_eq_some_iff.1 hc
    cases hc
    have hr := he _ _ h1
    simp only [IOp.step] at hs
    split at hs
    · rename_i vs e1
      rw [e1] at hr
      obtain ⟨u, hu, k5⟩ := Option.map_eq_some_iff.1 hs
      cases k5
      exact ok_ext r hr hu
    · cases hs
  case makeFunc f a b =>
    obtain ⟨y, h1, hc⟩ := Option.bind_eq_some_iff.1 hc
    obtain ⟨z, h2, hc⟩ := Option.bind_eq_some_iff.1 hc
    cases hc
    cases hs
    obtain ⟨a1, a2⟩ := opds_all he h1
    obtain ⟨b1, b2⟩ := opds_all he h2
    exact ok_mkfn r f (by simpa using a1) (by simpa using b1) (fun j v c p q => a2 j v c p (by simpa using q)) (fun j v c p q => b2 j v c p (by simpa using q))
  case makeInterface t x =>
    obtain ⟨d, h1, hc⟩ := Option.bind_eq_some_iff.1 hc
    split at hc
    · cases hc
    · rename_i hd
      obtain ⟨y, h2, hc⟩ := Option.bind_eq_some_iff.1 hc
      cases hc
      cases hs
      refine ok_mkif r h1 ?_ (he _ _ h2)
      cases d <;> first | rfl | exact absurd rfl (hd _)
  case call c =>
    obtain ⟨callee, args, argTypes⟩ := c
    simp only [] at hc
    split at hc
    · obtain ⟨t, h1, hc⟩ := Option.bind_eq_some_iff.1 hc
      split at hc
      · rename_i x hx
        obtain ⟨d, h2, hc⟩ := Option.bind_eq_some_iff.1 hc
        split at hc
        · cases hc
        · obtain ⟨y, h3, hc⟩ := Option.bind_eq_some_iff.1 hc
          cases hc
          simp only [IOp.step] at hs
          split at hs
          · rename_i hk
            obtain ⟨u, hu, k5⟩ := Option.map_eq_some_iff.1 hs
            cases k5
            obtain rfl : args = #[x] := by rw [← Array.toArray_toList (xs := args), hx]
            have := ok_len (ty := type) r h2 (he _ _ h3) hk hu
            obtain ⟨a, b, w', σ', k1, k2⟩ := this
            refine ⟨a, b, w', σ', ?_, k2⟩
            rw [← k1]
            simp [execOp, resolve, invoke, builtin, Builtin.len_, h1]
          · cases hs
      · cases hc
    · obtain ⟨l, h1, hc⟩ := Option.bind_eq_some_iff.1 hc
      split at hc
      · rename_i y ys
        cases hc
        obtain ⟨a1, a2⟩ := opds_all he h1
        simp only [IOp.step] at hs
        obtain ⟨q, hq, k5⟩ := Option.map_eq_some_iff.1 hs
        cases k5
        have hl : args.toList.map ev = (args.map ev).toList := by simp
        rw [hl] at a1 a2
        cases hz : (args.map ev).toList with
        | nil => rw [hz] at a1; simp at a1
        | cons ca cs =>
          rw [hz] at a1 a2
          obtain ⟨c, g1, g2⟩ := mxs_run (P := P) (w := w) (mn := false) (a2 0 _ _ rfl rfl) (by simpa using a1) (fun j v c p q => a2 (j + 1) v c (by simpa using p) (by simpa using q)) hq
          refine RunOk.quiet r ?_ g1
          simp only [Bool.false_eq_true, if_false] at g2
          simp [execOp, resolve, invoke, builtin, Builtin.max_, hl.trans hz, g2]
      · cases hc
    · obtain ⟨l, h1, hc⟩ := Option.bind_eq_some_iff.1 hc
      split at hc
      · rename_i y ys
        cases hc
        obtain ⟨a1, a2⟩ := opds_all he h1
        simp only [IOp.step] at hs
        obtain ⟨q, hq, k5⟩ := Option.map_eq_some_iff.1 hs
        cases k5
        have hl : args.toList.map ev = (args.map ev).toList := by simp
        rw [hl] at a1 a2
        cases hz : (args.map ev).toList with
        | nil => rw [hz] at a1; simp at a1
        | cons ca cs =>
          rw [hz] at a1 a2
          obtain ⟨c, g1, g2⟩ := mxs_run (P := P) (w := w) (mn := true) (a2 0 _ _ rfl rfl) (by simpa using a1) (fun j v c p q => a2 (j + 1) v c (by simpa using p) (by simpa using q)) hq
          refine RunOk.quiet r ?_ g1
          simp only [if_true] at g2
          simp [execOp, resolve, invoke, builtin, Builtin.min_, hl.trans hz, g2]
      · cases hc
    · split at hc
      · rename_i st xt x y ht hx
        obtain ⟨d1, h1, hc⟩ := Option.bind_eq_some_iff.1 hc
        obtain ⟨d2, h2, hc⟩ := Option.bind_eq_some_iff.1 hc
        split at hc
        · obtain ⟨⟨i, zc⟩, h3, hc⟩ := Option.bind_eq_some_iff.1 hc
          simp only [] at hc
          split at hc
          · rename_i hz
            obtain ⟨a', h4, hc⟩ := Option.bind_eq_some_iff.1 hc
            obtain ⟨b', h5, hc⟩ := Option.bind_eq_some_iff.1 hc
            cases hc
            obtain ⟨z, zv, g1, g2, g3, g4, g5⟩ := zeroOf_some h3
            have T : AppTypes P st xt _ i z := ⟨h1, ⟨_, h2⟩, g1, g2, by have := (zero_rel (σ := σ) g3 g4).1; omega, hz.1, hz.2⟩
            obtain rfl : args = #[x, y] := by rw [← Array.toArray_toList (xs := args), hx]
            obtain rfl : argTypes = #[st, xt] := by rw [← Array.toArray_toList (xs := argTypes), ht]
            simp only [IOp.step] at hs
            split at hs
            · rename_i old new hw1 hw2
              split at hs
              · rename_i hbd
                have fin : ∀ hv, RunOk P (execOp ev ⟨dst, .call ⟨.builtin .append, #[x, y], #[st, xt]⟩, type, pos, after, guard⟩) σ H w v H' := fun hv => by
                  obtain ⟨a, b, w', σ', k1, k2⟩ := ok_app (ty := type) (v := v) (H' := H') r T (he _ _ h4) (he _ _ h5) hw1 hw2 hbd hv
                  refine ⟨a, b, w', σ', ?_, k2⟩
                  rw [← k1]
                  simp [execOp, resolve, invoke, builtin]
                split at hs
                · rename_i e1
                  split at hs
                  · rename_i hz0
                    cases hs; exact fin (.inl ⟨e1, hz0, rfl, rfl⟩)
                  · rename_i hz0
                    cases hs; exact fin (.inr (.inl ⟨e1, hz0, rfl, rfl⟩))
                · rename_i id off ln sz e1
                  split at hs
                  · rename_i c ho
                    cases hs
                    exact fin (.inr (.inr ⟨id, off, ln, sz, c, e1, ho, rfl, rfl⟩))
                  · cases hs
                · cases hs
              · cases hs
            · cases hs
          · cases hc
        · cases hc
      · cases hc
    · cases hc
  all_goals cases hc
/-- What makes one new object: the value under that object's name, and its cells. -/
def IOp.fresh (e : Opd → Val) : IOp → Option ((Nat → Val) × List Val)
  | .box x => match (e x).cells? with
    | some l => some (fun id => .p id 0, l)
    | none => none
  | .bslice sz ln z ps => match partsOf e ps with
    | some l => if l.all (fun p => p.1 + p.2.length ≤ z.length) then some (fun id => .sl id 0 ln sz, padTo z l) else none
    | none => none
  | .mksl sz bytes z l c => match e l, e c with
    | .i _ l, .i _ c =>
      let l' := IntKind.i64.wrap l
      let c' := IntKind.i64.wrap c
      if 0 ≤ l' ∧ l' ≤ c' ∧ (bytes : Int) * c' ≤ 281474976710656 then some (fun id => .sl id 0 l'.toNat sz, mk z l'.toNat) else none
    | _, _ => none
  | _ => none

/-- 0: looks at no object; 1: looks at objects; 2: makes one; 3: changes objects. -/
def IOp.sort : IOp → Nat
  | .ld1 _ | .ldn _ _ => 1
  | .len k _ => if k = 3 then 1 else 0
  | .box _ | .bslice _ _ _ _ | .mksl _ _ _ _ _ => 2
  | .st _ _ _ | .app _ _ _ _ => 3
  | _ => 0

theorem fresh_step {e : Opd → Val} {H : Heap} {io : IOp} {v : Val} {H' : Heap} (hs : io.step e H = some (v, H')) (h2 : io.sort = 2) :
    ∃ f l, io.fresh e = some (f, l) ∧ v = f H.length ∧ H' = H ++ [.rw l] := by
  cases io with
  | box x =>
    simp only [IOp.step] at hs
    split at hs
    · rename_i l hl; cases hs; exact ⟨fun id => .p id 0, l, by simp only [IOp.fresh, hl], rfl, rfl⟩
    · cases hs
  | bslice sz ln z ps =>
    simp only [IOp.step] at hs
    split at hs
    · rename_i l hl
      split at hs
      · rename_i hb; cases hs; exact ⟨fun id => .sl id 0 ln sz, padTo z l, by simp only [IOp.fresh, hl, hb, if_true], rfl, rfl⟩
      · cases hs
    · cases hs
  | mksl sz bytes z l c =>
    simp only [IOp.step] at hs
    split at hs
    · rename_i k1 p k2 q e1 e2
      split at hs
      · rename_i hb; cases hs; exact ⟨fun id => .sl id 0 (IntKind.i64.wrap p).toNat sz, mk z (IntKind.i64.wrap p).toNat, by simp only [IOp.fresh, e1, e2]; rw [if_pos hb], rfl, rfl⟩
      · cases hs
    · cases hs
  | len k x => simp only [IOp.sort] at h2; split at h2 <;> cases h2
  | _ => cases h2

theorem quiet_step {e : Opd → Val} {H : Heap} {io : IOp} {v : Val} {H' : Heap} (hs : io.step e H = some (v, H')) (h2 : io.sort = 0 ∨ io.sort = 1) : H' = H := by
  cases io <;> simp only [IOp.step] at hs <;> first
    | (rcases h2 with h2 | h2 <;> cases h2; done)
    | (first | (cases hs; done) | (cases hs; rfl) | (obtain ⟨_, _, h⟩ := Option.map_eq_some_iff.1 hs; cases h; rfl) | (split at hs <;> (first | (cases hs; done) | (cases hs; rfl) | (obtain ⟨_, _, h⟩ := Option.map_eq_some_iff.1 hs; cases h; rfl) | (split at hs <;> (first | (cases hs; done) | (cases hs; rfl) | (obtain ⟨_, _, h⟩ := Option.map_eq_some_iff.1 hs; cases h; rfl) | (split at hs <;> (first | (cases hs; done) | (cases hs; rfl) | (obtain ⟨_, _, h⟩ := Option.map_eq_some_iff.1 hs; cases h; rfl) | (split at hs <;> (first | (cases hs; done) | (cases hs; rfl) | (obtain ⟨_, _, h⟩ := Option.map_eq_some_iff.1 hs; cases h; rfl))))))))))

/-- What looks at no object does not depend on them. -/
theorem pure_step {e : Opd → Val} {H K : Heap} {io : IOp} {v : Val} (hs : io.step e H = some (v, H)) (h2 : io.sort = 0) : io.step e K = some (v, K) := by
  cases io <;> simp only [IOp.step] at hs ⊢ <;> first
    | (cases h2; done)
    | (cases hs; rfl)
    | (obtain ⟨_, h, h'⟩ := Option.map_eq_some_iff.1 hs; cases h'; rw [h]; rfl)
    | skip
  case len k x =>
    split at hs
    · rename_i hk
      rw [if_pos hk]
      obtain ⟨q, h, h'⟩ := Option.map_eq_some_iff.1 hs
      cases h'
      simp only [IOp.sort] at h2
      split at h2
      · cases h2
      · have : lenOf (e x) K = some v := by
          unfold lenOf at h ⊢
          split at h <;> first
            | exact h
            | (rename_i id hx; rw [hx] at hk; simp [Val.lenNo] at hk; omega)
            | cases h
        rw [this]; rfl
    · cases hs
  all_goals clear h2
  all_goals repeat' (split at hs)
  all_goals first
    | (cases hs; done)
    | (cases hs; simp_all; done)
    | (obtain ⟨_, h, h'⟩ := Option.map_eq_some_iff.1 hs; cases h'; simp_all; done)
    | skip

def isAl (o : Oper) : Bool :=
  match o.op with
  | .alloc _ | .box _ _ | .buildSlice _ _ _ | .makeSlice _ _ _ => true
  | _ => false

theorem comp_fresh {P : Program} {e : Opd → Val} {ev : Operand → Value} {σ : Names} {w : World} (he : ∀ x y, opd x = some y → VRel σ (e y) (ev x)) (hce : ∀ v, e (.c v) = v)
    {o : Oper} (ha : isAl o = true) {io : IOp} (hc : comp P o = some io) {f : Nat → Val} {l : List Val} (hs : io.fresh e = some (f, l)) : AllocOk P (execOp ev o) σ w f l := by
  obtain ⟨dst, op, type, pos, after, guard⟩ := o
  unfold comp at hc
  cases op <;> first
    | (cases ha; done)
    | simp only [] at hc
  case alloc t =>
    obtain ⟨⟨i, zc⟩, h1, hc⟩ := Option.bind_eq_some_iff.1 hc
    cases hc
    obtain ⟨z, zv, g1, g2, g3, g4, g5⟩ := zeroOf_some h1
    have := all_one g4
    simp only [IOp.fresh, hce, Val.cells?, this, if_true] at hs
    cases hs
    exact alloc_alloc g1 g2 (ofValue_rel σ g3) g4
  case box t x =>
    obtain ⟨y, h1, rfl⟩ := Option.map_eq_some_iff.1 hc
    simp only [IOp.fresh] at hs
    split at hs
    · rename_i hl; cases hs; exact alloc_box (he _ _ h1) hl
    · cases hs
  case buildSlice t n parts =>
    obtain ⟨d, h1, hc⟩ := Option.bind_eq_some_iff.1 hc
    split at hc
    · rename_i el
      obtain ⟨⟨i, zc⟩, h2, hc⟩ := Option.bind_eq_some_iff.1 hc
      obtain ⟨z, zv, g1, g2, g3, g4, g5⟩ := zeroOf_some h2
      simp only [] at hc
      split at hc
      · rename_i hn
        obtain ⟨ps, h3, hc⟩ := Option.bind_eq_some_iff.1 hc
        cases hc
        simp only [IOp.fresh] at hs
        split at hs
        · rename_i l hl
          split at hs
          · rename_i hb
            cases hs
            exact alloc_bslice h1 g1 g2 g3 g4 g5 hn he h3 hl hb
          · cases hs
        · cases hs
      · cases hc
    · cases hc
  case makeSlice t l c =>
    obtain ⟨d, h1, hc⟩ := Option.bind_eq_some_iff.1 hc
    split at hc
    · rename_i el
      obtain ⟨⟨i, zc⟩, h2, hc⟩ := Option.bind_eq_some_iff.1 hc
      obtain ⟨y, h3, hc⟩ := Option.bind_eq_some_iff.1 hc
      obtain ⟨x, h4, hc⟩ := Option.bind_eq_some_iff.1 hc
      cases hc
      obtain ⟨z, zv, g1, g2, g3, g4, g5⟩ := zeroOf_some h2
      have hr1 := he _ _ h3
      have hr2 := he _ _ h4
      simp only [IOp.fresh] at hs
      split at hs
      · rename_i p q e1 e2
        rw [e1] at hr1
        rw [e2] at hr2
        split at hs
        · rename_i hb
          cases hs
          exact alloc_mksl h1 g1 g2 g3 g4 g5 hr1 hr2 hb.1 hb.2.1 hb.2.2
        · cases hs
      · cases hs
    · cases hc
end Go.Proofs.Ythpcdpnolmacpaa.Ev
/- Regions whose order is the text's, calls. -/
namespace Go.Proofs.Ythpcdpnolmacpaa.Ev
open Go

def PostM (m : Nat) (σ : Names) (H : Heap) (w : World) (Q : Val → Heap → Prop) : Ending → World → Prop := fun e w' =>
  ∃ v c H' σ', e = .returned c ∧ VRel σ' v c ∧ Q v H' ∧ Rel σ' H' w' ∧ StepM m σ H w σ' H' w'

/-- What a call comes to, whatever world the abstract state stands for; the names below m stay. -/
def SoundM (P : Program) (m : Nat) (f : FuncId) (vs : List Val) (H : Heap) (Q : Val → Heap → Prop) : Prop :=
  m ≤ H.length ∧ ∀ (σ : Names) (w : World) (cs : Array Value), Rel σ H w → LRel σ vs cs →
    (∃ g, (callFunc f cs).run P w = .ok (.enter g cs) w ∧ Calls P g cs w (PostM m σ H w Q)) ∨
    (∃ c w', (callFunc f cs).run P w = .ok (.value c) w' ∧ PostM m σ H w Q (.returned c) w')

abbrev Post (σ : Names) (H : Heap) (w : World) (Q : Val → Heap → Prop) : Ending → World → Prop := PostM H.length σ H w Q
abbrev SoundCall (P : Program) (f : FuncId) (vs : List Val) (H : Heap) (Q : Val → Heap → Prop) : Prop := SoundM P H.length f vs H Q

theorem SoundM.mono {P : Program} {m : Nat} {f : FuncId} {vs : List Val} {H : Heap} {Q R : Val → Heap → Prop} (h : SoundM P m f vs H Q) (hq : ∀ v H', Q v H' → R v H') : SoundM P m f vs H R := by
  refine ⟨h.1, fun σ w cs r l => ?_⟩
  rcases h.2 σ w cs r l with ⟨g, h1, h2⟩ | ⟨c, w', h1, v, c', H', σ', h2, h3, h4, h5⟩
  · exact .inl ⟨g, h1, h2.mono fun e w' ⟨v, c, H', σ', a, b, c', d⟩ => ⟨v, c, H', σ', a, b, hq _ _ c', d⟩⟩
  · exact .inr ⟨c, w', h1, v, c', H', σ', h2, h3, hq _ _ h4, h5⟩

inductive RItem where
  | op (d : Option Nat) (g : Option (Nat × Bool)) (io : IOp)
  | call (d : Option Nat) (g : Option (Nat × Bool)) (f : Opd) (xs : List Opd)
  deriving Inhabited

def RItem.d : RItem → Option Nat
  | .op d _ _ => d
  | .call d _ _ _ => d
def RItem.g : RItem → Option (Nat × Bool)
  | .op _ g _ => g
  | .call _ g _ _ => g

def putv (d : Option Nat) (v : Val) (ρ : Env) : Env :=
  match d with
  | some d => (d, v) :: ρ
  | none => ρ

/-- What stands for an item that was not wanted. -/
def skipV : Val := .tup []
theorem skip_rel {σ : Names} : VRel σ skipV undef := .tup rfl (by simp)

def guardOk (g : Option (Nat × Bool)) (ρ : Env) : Option Bool :=
  match g with
  | none => some true
  | some (t, b) => match ρ.get t with
    | .b x => some (x == b)
    | .tup [] => some false
    | _ => none

def EvItem (P : Program) (it : RItem) (e : Opd → Val) (H : Heap) (K : Val → Heap → Prop) : Prop :=
  match it with
  | .op _ _ io => match io.step e H with
    | some (v, H') => K v H'
    | none => False
  | .call _ _ f xs => match e f with
    | .fn (.func f) a b => SoundCall P f (a ++ xs.map e ++ b) H K
    | _ => False

def EvItems (P : Program) : List RItem → Env → Heap → (Env → Heap → Prop) → Prop
  | [], ρ, H, K => K ρ H
  | it :: r, ρ, H, K => match guardOk it.g ρ with
    | some true => EvItem P it (Opd.ev ρ) H (fun v H' => EvItems P r (putv it.d v ρ) H' K)
    | some false => EvItems P r (putv it.d skipV ρ) H K
    | none => False

def dstOk (N : Nat) : Option Nat → Bool
  | none => true
  | some d => d < N

def guardC (ops : Array Oper) : Option (Nat × Bool) → Option (Option (Nat × Bool))
  | none => some none
  | some (j, b) => match (ops[j]?).bind (·.dst) with
    | some d => some (some (d, b))
    | none => none

def compR (P : Program) (N : Nat) (ops : Array Oper) (o : Oper) : Option RItem :=
  if dstOk N o.dst then
    match guardC ops o.guard with
    | some g => match o.op with
      | .call ⟨.value f, args, _⟩ => match opd f, opds args.toList with
        | some f, some xs => some (.call o.dst g f xs)
        | _, _ => none
      | _ => match comp P o with
        | some io => some (.op o.dst g io)
        | none => none
    | none => none
  else none

theorem compR_d {P : Program} {N : Nat} {ops : Array Oper} {o : Oper} {it : RItem} (h : compR P N ops o = some it) : it.d = o.dst ∧ dstOk N o.dst = true ∧ guardC ops o.guard = some it.g := by
  unfold compR at h
  split at h
  · rename_i hd
    split at h
    · rename_i g hg
      split at h
      · split at h
        · cases h; exact ⟨rfl, hd, hg⟩
        · cases h
      · split at h
        · cases h; exact ⟨rfl, hd, hg⟩
        · cases h
    · cases h
  · cases h

theorem ARel.putv {N : Nat} {σ : Names} {ρ : Env} {a : Act} (h : ARel N σ ρ a) {d : Option Nat} (hd : dstOk N d = true) {v : Val} {c : Value} (hv : VRel σ v c) : ARel N σ (putv d v ρ) (a.put d c) := by
  cases d with
  | none => exact h
  | some d => exact h.put (by simpa [dstOk] using hd) hv

theorem guard_rel {N : Nat} {σ : Names} {ρ : Env} {a : Act} (h : ARel N σ ρ a) {ops : Array Oper} {o : Oper} {g : Option (Nat × Bool)} (hg : guardC ops o.guard = some g) {b : Bool} (hb : guardOk g ρ = some b) :
    Region.wanted o (yielded ops a.tmps) = b := by
  unfold guardC at hg
  unfold Region.wanted
  split at hg
  · rename_i h0
    cases hg
    rw [h0]
    simp [guardOk] at hb
    subst hb
    rfl
  · rename_i j q h0
    rw [h0]
    split at hg
    · rename_i d hd
      cases hg
      simp only [guardOk] at hb
      split at hb
      · rename_i x hx
        cases hb
        have := h.vals d
        rw [hx] at this
        simp only [yielded, hd, Option.bind_some]
        have hget : a.tmps[d]? = some (.bool x) := by
          rw [Array.getD_eq_getD_getElem?] at this
          cases hq : a.tmps[d]? with
          | none =>
            rw [hq] at this
            simp only [Option.getD_none] at this
            exfalso
            unfold undef at this
            cases this
          | some y =>
            rw [hq] at this
            simp only [Option.getD_some] at this
            cases this
            rfl
        rw [hget]
        cases x <;> cases q <;> rfl
      · rename_i hx
        cases hb
        have := h.vals d
        rw [hx] at this
        simp only [yielded, hd, Option.bind_some]
        rw [Array.getD_eq_getD_getElem?] at this
        cases hq : a.tmps[d]? with
        | none => cases q <;> rfl
        | some y =>
          rw [hq] at this
          simp only [Option.getD_some] at this
          cases this
          cases q <;> rfl
      · cases hb
    · cases hg

/-- One operation. -/
theorem item_sound {P : Program} {N : Nat} {ops : Array Oper} {o : Oper} {it : RItem} (hc : compR P N ops o = some it) {σ : Names} {H : Heap} {w : World} (r : Rel σ H w) {a : Act}
    {e : Opd → Val} (he : ∀ x y, opd x = some y → VRel σ (e y) (a.eval x)) (hce : ∀ v, e (.c v) = v) {K : Val → Heap → Prop} (hk : EvItem P it e H K) {next : Act → World → Prop} {Q : Exit → Act → World → Prop}
    (hn : ∀ v c H' σ' w', K v H' → VRel σ' v c → Rel σ' H' w' → Step σ H w σ' H' w' → next (a.put o.dst c) w') : o.wp P a w next Q := by
  unfold compR at hc
  split at hc
  · split at hc
    · split at hc
      · rename_i f args at_ hop
        split at hc
        · rename_i f' xs hf hxs
          cases hc
          simp only [EvItem] at hk
          split at hk
          · rename_i g fa fb hfv
            have hfr := he _ _ hf
            rw [hfv] at hfr
            generalize hq : a.eval f = q at hfr
            cases hfr with
            | fn _ ha hb ra rb =>
              rename_i a' b'
              obtain ⟨x1, x2⟩ := opds_all he hxs
              have hl : LRel σ (fa ++ xs.map e ++ fb) (a' ++ args.map a.eval ++ b') := by
                refine ⟨by simp at x1 ⊢; omega, fun j v c hj hcj => ?_⟩
                by_cases h1 : j < (fa ++ xs.map e).length
                · rw [List.getElem?_append_left h1] at hj
                  rw [Array.getElem?_append_left (by simp at x1 h1 ⊢; omega)] at hcj
                  by_cases h2 : j < fa.length
                  · rw [List.getElem?_append_left h2] at hj
                    rw [Array.getElem?_append_left (by omega)] at hcj
                    exact ra j v c hj hcj
                  · rw [List.getElem?_append_right (by omega)] at hj
                    rw [Array.getElem?_append_right (by omega)] at hcj
                    rw [← ha] at hcj
                    exact x2 _ v c hj (by simpa using hcj)
                · rw [List.getElem?_append_right (by omega)] at hj
                  rw [Array.getElem?_append_right (by simp at x1 h1 ⊢; omega)] at hcj
                  have ee : (fa ++ xs.map e).length = (a' ++ args.map a.eval).size := by simp at x1 ⊢; omega
                  rw [ee] at hj
                  exact rb _ v c hj hcj
              have hrun : (execOp a.eval o).run P w = (callFunc g (a' ++ args.map a.eval ++ b')).run P w := by
                obtain ⟨dst, op, type, pos, after, guard⟩ := o
                simp only at hop
                subst hop
                simp [execOp, resolve, Deferred.ofValue, hq, invoke]
              unfold Oper.wp
              rw [hrun]
              rcases hk.2 σ w _ r hl with ⟨g', h1, h2⟩ | ⟨c, w', h1, v, c', H', σ', h2, h3, h4, h5, h6⟩
              · rw [h1, Oper.upon_enter]
                refine h2.mono ?_
                rintro _ w' ⟨v, c, H', σ', rfl, h3, h4, h5, h6⟩
                exact hn v c H' σ' w' h4 h3 h5 h6
              · cases h2
                rw [h1, Oper.upon_value]
                exact hn v c H' σ' w' h4 h3 h5 h6
          · exact hk.elim
        · cases hc
      · split at hc
        · rename_i io hio
          cases hc
          simp only [EvItem] at hk
          split at hk
          · rename_i v H' hs
            obtain ⟨x, c, w', σ', h1, h2, h3, h4, h5⟩ := comp_ok (ev := a.eval) (e := e) (w := w) he hce r hio hs
            unfold Oper.wp
            rw [h1]
            rcases h2 with rfl | ⟨rfl, rfl⟩
            · rw [Oper.upon_value]; exact hn v c H' σ' w' hk h3 h4 h5
            · rw [Oper.upon_skip]; exact hn v undef H' σ' w' hk h3 h4 h5
          · exact hk.elim
        · cases hc
    · cases hc
  · cases hc

/-- A list of operations, one behind the other. -/
theorem items_sound {P : Program} {N : Nat} {ops : Array Oper} {K : Env → Heap → Prop} {Q : Exit → Act → World → Prop} :
    ∀ {l : List Nat} {its : List RItem} {σ : Names} {H : Heap} {w : World} {ρ : Env} {a : Act},
    l.length = its.length → (∀ (j i : Nat) (it : RItem), l[j]? = some i → its[j]? = some it → ∃ o, ops[i]? = some o ∧ compR P N ops o = some it) →
    Rel σ H w → ARel N σ ρ a → EvItems P its ρ H K →
    (∀ ρ' H' σ' a' w', K ρ' H' → Rel σ' H' w' → ARel N σ' ρ' a' → Step σ H w σ' H' w' → Q .normal a' w') → wpOps P ops Q l a w
  | [], [], σ, H, w, ρ, a, _, _, r, ar, hk, hq => hq ρ H σ a w hk r ar (Step.refl _ _ _ r.dom)
  | [], _ :: _, _, _, _, _, _, h, _, _, _, _, _ => by simp at h
  | _ :: _, [], _, _, _, _, _, h, _, _, _, _, _ => by simp at h
  | i :: l, it :: its, σ, H, w, ρ, a, hl, hc, r, ar, hk, hq => by
    obtain ⟨o, ho, hco⟩ := hc 0 i it rfl rfl
    obtain ⟨hd, hdN, hg⟩ := compR_d hco
    have hrest : ∀ (j i : Nat) (it : RItem), l[j]? = some i → its[j]? = some it → ∃ o, ops[i]? = some o ∧ compR P N ops o = some it :=
      fun j i it h1 h2 => hc (j + 1) i it (by simpa using h1) (by simpa using h2)
    simp only [wpOps, ho]
    simp only [EvItems] at hk
    split at hk
    · rename_i hgo
      rw [guard_rel ar hg hgo, if_pos rfl]
      refine .inl (item_sound hco r (fun x y h => opd_rel ar h) (fun _ => rfl) hk ?_)
      intro v c H' σ' w' hk' hv hr hs
      have hle : σ.le σ' := hs.le r.dom
      rw [hd] at hk'
      exact items_sound (by simpa using hl) hrest hr ((ar.mono hle).putv hdN hv) hk' (fun ρ' H'' σ'' a' w'' k1 k2 k3 k4 => hq ρ' H'' σ'' a' w'' k1 k2 k3 (hs.trans k4))
    · rename_i hgo
      rw [guard_rel ar hg hgo, if_neg (by simp)]
      rw [hd] at hk
      exact items_sound (by simpa using hl) hrest r (ar.putv hdN skip_rel) hk hq
    · exact hk.elim
end Go.Proofs.Ythpcdpnolmacpaa.Ev
/- A step hangs on its operands alone. -/
namespace Go.Proofs.Ythpcdpnolmacpaa.Ev
open Go

def IOp.opds : IOp → List Opd
  | .mv x => [x]
  | .pick c a b => [c, a, b]
  | .box x => [x]
  | .build _ ps => ps.map (·.2.2)
  | .bslice _ _ _ ps => ps.map (·.2.2)
  | .ld1 a => [a]
  | .ldn _ a => [a]
  | .st _ a x => [a, x]
  | .nilchk x => [x]
  | .ibin _ x y => [x, y]
  | .eqn _ _ x y => [x, y]
  | .eqs _ _ x y => [x, y]
  | .un _ x => [x]
  | .conv _ x => [x]
  | .mksl _ _ _ l c => [l, c]
  | .slice _ x lo hi => x :: (lo.toList ++ hi.toList)
  | .slstr x lo hi => x :: (lo.toList ++ hi.toList)
  | .fad _ x => [x]
  | .fld1 _ x => [x]
  | .fldn _ _ x => [x]
  | .iad _ x i => [x, i]
  | .iada _ _ x i => [x, i]
  | .ix1 _ x i => [x, i]
  | .ixn _ _ x i => [x, i]
  | .ixs x i => [x, i]
  | .ext x _ => [x]
  | .len _ x => [x]
  | .mx _ x xs => x :: xs
  | .app _ _ x y => [x, y]
  | .mkfn _ a b => a ++ b
  | .mkif _ x => [x]

theorem partsOf_congr {e e' : Opd → Val} : ∀ {ps : List (Nat × Nat × Opd)}, (∀ x ∈ ps.map (·.2.2), e x = e' x) → partsOf e ps = partsOf e' ps
  | [], _ => rfl
  | (o, n, x) :: r, h => by
    simp only [partsOf]
    rw [h x (by simp), partsOf_congr (ps := r) (fun y hy => h y (by simp at hy ⊢; exact .inr hy))]

theorem bnd_congr {e e' : Opd → Val} {d : Nat} {o : Option Opd} (h : ∀ x ∈ o.toList, e x = e' x) : bnd e d o = bnd e' d o := by
  cases o with
  | none => rfl
  | some x => simp only [bnd, h x (by simp)]

theorem step_congr {e e' : Opd → Val} {io : IOp} (h : ∀ x ∈ io.opds, e x = e' x) (H : Heap) : io.step e H = io.step e' H := by
  cases io
  case build z ps => simp only [IOp.step, partsOf_congr h]
  case bslice sz ln z ps => simp only [IOp.step, partsOf_congr h]
  case slice sz x lo hi =>
    have h1 := h x (by simp [IOp.opds])
    have h2 : ∀ d, bnd e d lo = bnd e' d lo := fun d => bnd_congr fun y hy => h y (by simp [IOp.opds] at hy ⊢; exact .inr (.inl hy))
    have h3 : ∀ d, bnd e d hi = bnd e' d hi := fun d => bnd_congr fun y hy => h y (by simp [IOp.opds] at hy ⊢; exact .inr (.inr hy))
    simp only [IOp.step, h1, h2, h3]
  case slstr x lo hi =>
    have h1 := h x (by simp [IOp.opds])
    have h2 : ∀ d, bnd e d lo = bnd e' d lo := fun d => bnd_congr fun y hy => h y (by simp [IOp.opds] at hy ⊢; exact .inr (.inl hy))
    have h3 : ∀ d, bnd e d hi = bnd e' d hi := fun d => bnd_congr fun y hy => h y (by simp [IOp.opds] at hy ⊢; exact .inr (.inr hy))
    simp only [IOp.step, h1, h2, h3]
  case mx mn x xs =>
    have h1 := h x (by simp [IOp.opds])
    have h2 : xs.map e = xs.map e' := List.map_congr_left fun y hy => h y (by simp [IOp.opds, hy])
    simp only [IOp.step, h1, h2]
  case mkfn f a b =>
    have h1 : a.map e = a.map e' := List.map_congr_left fun y hy => h y (by simp [IOp.opds, hy])
    have h2 : b.map e = b.map e' := List.map_congr_left fun y hy => h y (by simp [IOp.opds, hy])
    simp only [IOp.step, h1, h2]
  all_goals
    simp only [IOp.opds, List.mem_cons, List.not_mem_nil, or_false, forall_eq_or_imp, forall_eq] at h
    simp only [IOp.step, h]

theorem fresh_congr {e e' : Opd → Val} {io : IOp} (h : ∀ x ∈ io.opds, e x = e' x) : io.fresh e = io.fresh e' := by
  cases io
  case bslice sz ln z ps => simp only [IOp.fresh, partsOf_congr h]
  case box x => simp only [IOp.fresh, h x (by simp [IOp.opds])]
  case mksl sz bytes z l c => simp only [IOp.fresh, h l (by simp [IOp.opds]), h c (by simp [IOp.opds])]
  all_goals rfl

def RItem.opds : RItem → List Opd
  | .op _ _ io => io.opds
  | .call _ _ f xs => f :: xs

theorem item_congr {P : Program} {e e' : Opd → Val} {it : RItem} (h : ∀ x ∈ it.opds, e x = e' x) {H : Heap} {K : Val → Heap → Prop} (hk : EvItem P it e H K) : EvItem P it e' H K := by
  cases it with
  | op d g io => simp only [EvItem] at hk ⊢; rw [← step_congr h H]; exact hk
  | call d g f xs =>
    have h1 := h f (by simp [RItem.opds])
    have h2 : xs.map e = xs.map e' := List.map_congr_left fun y hy => h y (by simp [RItem.opds, hy])
    simp only [EvItem] at hk ⊢
    rw [← h1, ← h2]
    exact hk

/-- What reads an object reads it still where there are more of them. -/
theorem read_grow {e : Opd → Val} {H : Heap} {io : IOp} {v : Val} (h1 : io.sort = 1) (hs : io.step e H = some (v, H)) (o : AObj) : io.step e (H ++ [o]) = some (v, H ++ [o]) := by
  have app : ∀ {id : Nat} {x : AObj}, H[id]? = some x → (H ++ [o])[id]? = some x := by
    intro id x h
    have hid : id < H.length := by
      rcases Nat.lt_or_ge id H.length with h' | h'
      · exact h'
      · rw [List.getElem?_eq_none h'] at h; cases h
    rw [List.getElem?_append_left hid]; exact h
  cases io <;> first
    | (cases h1; done)
    | simp only [IOp.step] at hs ⊢
  case ld1 a =>
    split at hs
    · split at hs
      · rename_i c ho
        obtain ⟨u, hu, h5⟩ := Option.map_eq_some_iff.1 hs
        cases h5
        rw [app ho]; simp [hu]
      · rename_i c ho
        obtain ⟨u, hu, h5⟩ := Option.map_eq_some_iff.1 hs
        cases h5
        rw [app ho]; simp [hu]
      · cases hs
    · cases hs
  case ldn n a =>
    split at hs
    · split at hs
      · rename_i c ho
        split at hs
        · rename_i hb; cases hs; rw [app ho]; simp [hb]
        · cases hs
      · rename_i c ho
        split at hs
        · rename_i hb; cases hs; rw [app ho]; simp [hb]
        · cases hs
      · cases hs
    · cases hs
  case len k x =>
    split at hs
    · rename_i hk
      rw [if_pos hk]
      obtain ⟨u, hu, h5⟩ := Option.map_eq_some_iff.1 hs
      cases h5
      have : lenOf (e x) (H ++ [o]) = some v := by
        unfold lenOf at hu ⊢
        split at hu
        · exact hu
        · exact hu
        · exact hu
        · exact hu
        · rename_i id hx
          split at hu
          · rename_i es ho
            rw [app ho]; exact hu
          · cases hu
        · cases hu
      rw [this]; rfl
    · cases hs
  all_goals (simp only [IOp.sort] at h1; cases h1)
end Go.Proofs.Ythpcdpnolmacpaa.Ev
