/- This text of a proof shows: the document's ring and the code's ring go together. -/
import Derived.Test.YthpcdpnolmacpaaZ24
set_option linter.unusedVariables false
set_option linter.unusedSimpArgs false
set_option linter.constructorNameAsVariable false
namespace Go.Proofs.Ythpcdpnolmacpaa.IR
open Go Go.Proofs.Ythpcdpnolmacpaa.Ev Go.Proofs.Ythpcdpnolmacpaa.Ext
/-- The packets with their ends, as the code keeps them. -/
def qOf (rate : Int) : Int → List (Int × Int × Int) → List (Int × Int × Int)
  | _, [] => []
  | e, x :: A => (x.1, x.2.1, stepE rate e x) :: qOf rate (stepE rate e x) A
theorem qOf_len (rate : Int) : ∀ (e : Int) (A : List (Int × Int × Int)), (qOf rate e A).length = A.length
  | _, [] => rfl
  | e, x :: A => by simp only [qOf, List.length_cons, qOf_len rate _ A]
theorem qOf_get (rate : Int) : ∀ (e : Int) (A : List (Int × Int × Int)) (k : Nat) (y : Int × Int × Int), A[k]? = some y → (qOf rate e A)[k]? = some (y.1, y.2.1, endL rate e (A.take (k + 1)))
  | _, [], k, y, h => by simp at h
  | e, x :: A, 0, y, h => by simp at h; subst h; simp [qOf, endL]
  | e, x :: A, k + 1, y, h => by
    simp only [List.getElem?_cons_succ] at h
    have := qOf_get rate (stepE rate e x) A k y h
    simp only [qOf, List.getElem?_cons_succ, this, List.take_succ_cons]
    rfl
theorem qOf_snoc (rate : Int) : ∀ (e : Int) (A : List (Int × Int × Int)) (x : Int × Int × Int), qOf rate e (A ++ [x]) = qOf rate e A ++ [(x.1, x.2.1, stepE rate (endL rate e A) x)]
  | _, [], x => rfl
  | e, y :: A, x => by simp only [List.cons_append, qOf, qOf_snoc rate _ A x]; rfl
theorem qOf_map1 (rate : Int) : ∀ (e : Int) (A : List (Int × Int × Int)), (qOf rate e A).map (·.1) = A.map (·.1)
  | _, [] => rfl
  | e, x :: A => by simp only [qOf, List.map_cons, qOf_map1 rate _ A]
theorem qOf_map2 (rate : Int) : ∀ (e : Int) (A : List (Int × Int × Int)), (qOf rate e A).map (·.2.1) = A.map (·.2.1)
  | _, [] => rfl
  | e, x :: A => by simp only [qOf, List.map_cons, qOf_map2 rate _ A]
theorem sumN_map : ∀ {A B : List (Int × Int × Int)}, A.map (·.2.1) = B.map (·.2.1) → sumN A = sumN B
  | [], [], _ => rfl
  | [], y :: B, h => by simp at h
  | x :: A, [], h => by simp at h
  | x :: A, y :: B, h => by
    simp only [List.map_cons, List.cons.injEq] at h
    simp only [sumN, h.1, sumN_map h.2]
def RR.Q (x : RR) : List (Int × Int × Int) := (qOf x.rate 0 x.A).drop x.gone.toNat
theorem RR.Q_sum (x : RR) : sumN x.Q = sumN (x.A.drop x.gone.toNat) := sumN_map (by unfold RR.Q; rw [List.map_drop, List.map_drop, qOf_map2])
theorem RR.Q_len (x : RR) (h : x.ok) : (x.Q.length : Int) = x.A.length - x.gone := by
  have := h.g0; have := h.g1
  unfold RR.Q; rw [List.length_drop, qOf_len]; omega
theorem RR.Q_fine (x : RR) (h : x.ok) : Fine x.Q := by
  intro y hy
  have hm : y.2.1 ∈ (qOf x.rate 0 x.A).map (·.2.1) := List.mem_map.2 ⟨y, List.mem_of_mem_drop hy, rfl⟩
  rw [qOf_map2] at hm
  obtain ⟨z, hz, e⟩ := List.mem_map.1 hm
  have := h.all z hz
  rw [← e]; exact ⟨this.1, this.2.1⟩
structure TS (room : Nat) (rate : Int) (s : RS) (x : RR) (n : Nat) : Prop where
  ring : Ring s room rate x.Q x.clock (endL rate 0 x.A) (sumN x.Q) x.shut
  ok : x.ok
  room : x.room = room
  rate : x.rate = rate
  len : x.A.length ≤ n
theorem mxi_ite (a b : Int) : (if a > b then a else b) = mxi a b := by unfold mxi; (repeat' split) <;> omega
def RR.put (x : RR) (a n now : Int) : RR := { x with A := x.A ++ [(a, n, mxi x.clock now)], clock := mxi x.clock now, shut := x.shut || ((x.A.length : Int) + 1 - x.gone == x.room) }
theorem TS.put {room : Nat} {rate : Int} {s s' : RS} {x : RR} {m : Nat} (h : TS room rate s x m) (hm : m < 80) (a n now : Int) (hw : U now) (h1 : ¬ n < 1) (h2 : ¬ n > 65536)
    (hR : Ring s' room rate (x.Q ++ [(a, n, endAt x.clock (endL rate 0 x.A) rate n now)]) (mxi x.clock now) (endAt x.clock (endL rate 0 x.A) rate n now) (IntKind.u64.wrap (sumN x.Q + n)) (x.shut || (x.Q.length + 1 == room))) : TS room rate s' (x.put a n now) (m + 1) := by
  have hg0 := h.ok.g0; have hg1 := h.ok.g1; have hl := h.len; have hrm := h.room
  have hQl := x.Q_len h.ok
  have hf := sumN_le (x.Q_fine h.ok)
  have hql : x.Q.length ≤ 80 := by omega
  have he : stepE rate (endL rate 0 x.A) (a, n, mxi x.clock now) = endAt x.clock (endL rate 0 x.A) rate n now := by
    show sat ((if mxi x.clock now > endL rate 0 x.A then mxi x.clock now else endL rate 0 x.A) + tm n rate) = _
    unfold endAt
    rw [show (if mxi x.clock now > endL rate 0 x.A then mxi x.clock now else endL rate 0 x.A) = mxi (mxi x.clock now) (endL rate 0 x.A) by generalize mxi x.clock now = p; generalize endL rate 0 x.A = q; unfold mxi; (repeat' split) <;> omega]
  have hQ : (x.put a n now).Q = x.Q ++ [(a, n, endAt x.clock (endL rate 0 x.A) rate n now)] := by
    show (qOf x.rate 0 (x.A ++ [(a, n, mxi x.clock now)])).drop x.gone.toNat = _
    rw [qOf_snoc, List.drop_append_of_le_length (by rw [qOf_len]; omega), h.rate, he]
    unfold RR.Q
    rw [h.rate]
  refine ⟨?_, ⟨h.ok.rate, U_mxi h.ok.clock hw, ?_, ?_, hg0, ?_, h.ok.room0, h.ok.room1⟩, h.room, h.rate, ?_⟩
  · rw [hQ, sumN_snoc]
    rw [wrap_u64 (by omega)] at hR
    have e1 : endL rate 0 (x.put a n now).A = endAt x.clock (endL rate 0 x.A) rate n now := by
      show endL rate 0 (x.A ++ [_]) = _
      rw [endL_snoc, he]
    have e2 : (x.put a n now).shut = (x.shut || (x.Q.length + 1 == room)) := by
      show (x.shut || ((x.A.length : Int) + 1 - x.gone == x.room)) = _
      congr 1
      rw [Bool.eq_iff_iff]; simp only [beq_iff_eq]; omega
    rw [e1, e2]; exact hR
  · show (x.A ++ [_]).length ≤ 80
    rw [List.length_append]; simp only [List.length_cons, List.length_nil]; omega
  · intro y hy
    rcases List.mem_append.1 hy with hy | hy
    · exact h.ok.all y hy
    · rw [List.mem_singleton] at hy; subst hy
      exact ⟨by show 1 ≤ n; omega, by show n ≤ 65536; omega, U_mxi h.ok.clock hw⟩
  · show x.gone ≤ ((x.A ++ [_]).length : Int)
    rw [List.length_append]; simp only [List.length_cons, List.length_nil]; omega
  · show (x.A ++ [_]).length ≤ m + 1
    rw [List.length_append]; simp only [List.length_cons, List.length_nil]; omega
def RR.done (x : RR) (g : Nat) (cl : Int) : RR := { x with gone := g, clock := cl, shut := if 2 * ((x.A.length : Int) - g) ≤ x.room then false else x.shut }
theorem TS.split {room : Nat} {rate : Int} {s : RS} {x : RR} {m : Nat} (h : TS room rate s x m) {g : Nat} {cl : Int} (k1 : x.gone ≤ g) (k2 : g ≤ x.A.length)
    (k3 : ∀ k : Nat, x.gone ≤ k → k < g → endL x.rate 0 (x.A.take (k + 1)) ≤ cl) (k4 : g = x.A.length ∨ ¬ endL x.rate 0 (x.A.take (g + 1)) ≤ cl) :
    (ended cl x.Q).map (·.1) = hs x.A x.gone g ∧ left cl x.Q = (qOf x.rate 0 x.A).drop g := by
  have hg0 := h.ok.g0; have hg1 := h.ok.g1
  have hsp : x.Q = ((qOf x.rate 0 x.A).take g).drop x.gone.toNat ++ (qOf x.rate 0 x.A).drop g := by
    unfold RR.Q
    conv => lhs; rw [← List.take_append_drop g (qOf x.rate 0 x.A)]
    rw [List.drop_append_of_le_length (by rw [List.length_take, qOf_len]; omega)]
  have hx := ended_app (c := cl) (d := ((qOf x.rate 0 x.A).take g).drop x.gone.toNat) (r := (qOf x.rate 0 x.A).drop g) ?_ ?_
  · rw [hsp, hx.1, hx.2]
    refine ⟨?_, rfl⟩
    unfold hs
    rw [List.map_drop, List.map_take, qOf_map1, List.map_drop, List.map_take]
  · intro y hy
    obtain ⟨j, hj, e⟩ := List.getElem_of_mem hy
    rw [List.length_drop, List.length_take, qOf_len] at hj
    have e2 := List.getElem?_eq_getElem (l := ((qOf x.rate 0 x.A).take g).drop x.gone.toNat) (i := j) (by rw [List.length_drop, List.length_take, qOf_len]; exact hj)
    rw [e, List.getElem?_drop, List.getElem?_take_of_lt (by omega)] at e2
    have hz : x.A[x.gone.toNat + j]? = some x.A[x.gone.toNat + j] := List.getElem?_eq_getElem (by omega)
    rw [qOf_get x.rate 0 x.A _ _ hz] at e2
    have := k3 (x.gone.toNat + j) (by omega) (by omega)
    have e3 := Option.some.inj e2
    rw [← e3]; exact this
  · intro y hy
    rcases k4 with k4 | k4
    · rw [List.drop_eq_nil_of_le (by rw [qOf_len]; omega)] at hy; simp at hy
    · rw [List.head?_drop] at hy
      by_cases hgl : g < x.A.length
      · have hz : x.A[g]? = some x.A[g] := List.getElem?_eq_getElem hgl
        rw [qOf_get x.rate 0 x.A _ _ hz] at hy
        have e3 := Option.some.inj hy
        rw [← e3]; exact k4
      · rw [List.getElem?_eq_none (by rw [qOf_len]; omega)] at hy; simp at hy
theorem TS.done {room : Nat} {rate : Int} {s s' : RS} {x : RR} {m : Nat} (h : TS room rate s x m) (hm : m < 80) (now : Int) (hw : U now) {g : Nat} (k1 : x.gone ≤ g) (k2 : g ≤ x.A.length)
    (k3 : ∀ k : Nat, x.gone ≤ k → k < g → endL x.rate 0 (x.A.take (k + 1)) ≤ mxi x.clock now) (k4 : g = x.A.length ∨ ¬ endL x.rate 0 (x.A.take (g + 1)) ≤ mxi x.clock now)
    (hR : Ring s' room rate (left (mxi x.clock now) x.Q) (mxi x.clock now) (endL rate 0 x.A) (subB (sumN x.Q) (ended (mxi x.clock now) x.Q)) (if ((left (mxi x.clock now) x.Q).length : Int) ≤ room / 2 then false else x.shut)) :
    TS room rate s' (x.done g (mxi x.clock now)) (m + 1) := by
  have hl := h.len; have hrm := h.room
  have hs := (h.split k1 k2 k3 k4).2
  have hQl := x.Q_len h.ok
  have hg0 := h.ok.g0
  rw [subB_sum _ (x.Q_fine h.ok) (by omega)] at hR
  have hQ : (x.done g (mxi x.clock now)).Q = left (mxi x.clock now) x.Q := by
    rw [hs]; show (qOf x.rate 0 x.A).drop ((g : Int)).toNat = _; rw [Int.toNat_natCast]
  refine ⟨?_, ⟨h.ok.rate, U_mxi h.ok.clock hw, h.ok.len, h.ok.all, by show (0 : Int) ≤ g; omega, by show (g : Int) ≤ x.A.length; omega, h.ok.room0, h.ok.room1⟩, h.room, h.rate, by show x.A.length ≤ m + 1; omega⟩
  rw [hQ]
  have e : (x.done g (mxi x.clock now)).shut = (if ((left (mxi x.clock now) x.Q).length : Int) ≤ room / 2 then false else x.shut) := by
    show (if 2 * ((x.A.length : Int) - g) ≤ x.room then false else x.shut) = _
    have e5 : ((left (mxi x.clock now) x.Q).length : Int) = x.A.length - g := by rw [hs, List.length_drop, qOf_len]; omega
    rw [e5, h.room]
    by_cases h5 : 2 * ((x.A.length : Int) - g) ≤ room
    · rw [if_pos h5, if_pos (by omega)]
    · rw [if_neg h5, if_neg (by omega)]
  rw [e]; exact hR
theorem TS.up {room : Nat} {rate : Int} {s : RS} {x : RR} {m : Nat} (h : TS room rate s x m) : TS room rate s x (m + 1) := ⟨h.ring, h.ok, h.room, h.rate, Nat.le_succ_of_le h.len⟩
theorem TS.next1 {room : Nat} {rate : Int} {s : RS} {x : RR} {m : Nat} (h : TS room rate s x m) (hg : x.gone < x.A.length) :
    SoundM Try.prog 2 13 [.p 0 0] s.heap (fun v H' => v = .tup [.i .u64 (endL x.rate 0 (x.A.take (x.gone.toNat + 1))), .b true] ∧ H' = s.heap) := by
  have hg0 := h.ok.g0
  have hz : x.A[x.gone.toNat]? = some x.A[x.gone.toNat] := List.getElem?_eq_getElem (by omega)
  have hh : x.Q.head? = some (x.A[x.gone.toNat].1, x.A[x.gone.toNat].2.1, endL x.rate 0 (x.A.take (x.gone.toNat + 1))) := by unfold RR.Q; rw [List.head?_drop]; exact qOf_get x.rate 0 x.A _ _ hz
  have := ring_next h.ring
  have hne : x.Q.isEmpty = false := by cases hq : x.Q with | nil => rw [hq] at hh; simp at hh | cons _ _ => rfl
  rw [hh, hne] at this
  exact this
theorem TS.next0 {room : Nat} {rate : Int} {s : RS} {x : RR} {m : Nat} (h : TS room rate s x m) (hg : ¬ x.gone < x.A.length) :
    SoundM Try.prog 2 13 [.p 0 0] s.heap (fun v H' => v = .tup [.i .u64 0, .b false] ∧ H' = s.heap) := by
  have hg0 := h.ok.g0; have hg1 := h.ok.g1
  have hq : x.Q = [] := by have := x.Q_len h.ok; exact List.eq_nil_of_length_eq_zero (by omega)
  have := ring_next h.ring
  rw [hq] at this
  exact this
theorem TS.used {room : Nat} {rate : Int} {s : RS} {x : RR} {m : Nat} (h : TS room rate s x m) :
    SoundM Try.prog 2 15 [.p 0 0] s.heap (fun v H' => v = .i .i64 ((x.A.length : Int) - x.gone) ∧ H' = s.heap) := by
  have := ring_used h.ring
  rwa [x.Q_len h.ok] at this
theorem TS.bytes {room : Nat} {rate : Int} {s : RS} {x : RR} {m : Nat} (h : TS room rate s x m) :
    SoundM Try.prog 2 18 [.p 0 0] s.heap (fun v H' => v = .i .u64 (sumN (x.A.drop x.gone.toNat)) ∧ H' = s.heap) := by
  have := ring_bytes h.ring
  rwa [x.Q_sum] at this
end Go.Proofs.Ythpcdpnolmacpaa.IR
