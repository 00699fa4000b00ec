/- This text of a proof shows: what the texts of the ring's laws have in common. -/
import Derived.Test.YthpcdpnolmacpaaH24
set_option linter.unusedVariables false
set_option linter.unusedSimpArgs false
set_option linter.constructorNameAsVariable false
namespace Go.Proofs.Ythpcdpnolmacpaa.IR
open Go Go.Proofs.Ythpcdpnolmacpaa.Ev Go.Proofs.Ythpcdpnolmacpaa.Ext
set_option linter.unusedSimpArgs false
set_option linter.unusedVariables false
set_option maxHeartbeats 4000000
attribute [local go_sem] skipV nc0 nc1 nc2 nc3 bne_self_eq_false decide_true decide_false IOp.step Opd.ev Env.get initEnv Val.cells? Val.one List.all_cons List.all_nil Bool.and_true Bool.and_self Bool.true_and bin ints eqv Val.kindNo lenNo_s lenNo_nils lenNo_sl lenNo_nilm lenNo_m lenOf_s lenOf_nils lenOf_sl lenOf_nilm unary mxs mx2 partsOf padTo List.foldl_cons List.foldl_nil wr_nil wr_step wr_zero List.set_cons_zero List.set_cons_succ List.map_cons List.map_nil z1 z2 Nat.succ_ne_zero List.length_cons List.length_nil List.cons_append List.nil_append List.append_nil List.getElem?_cons_zero List.getElem?_cons_succ List.getElem?_nil Option.map_some Option.map_none Nat.zero_add Nat.add_zero List.drop_zero List.drop_succ_cons List.take_succ_cons List.take_zero List.take_nil and_self and_true true_and Nat.le_refl Bool.not_true Bool.not_false Option.getD_some window Val.slen bnd resV resL RV.val Bool.false_eq_true BEq.rfl Bool.true_beq Bool.false_beq beq_true beq_false mk_one ite_true ite_false eqc ceqs ceq
def f4 (x : Int × Int × Int × Int) : List Val := [.i .u8 x.1, .i .u64 x.2.1, .i .u64 x.2.2.1, .i .i64 x.2.2.2]
theorem f4_len (x : Int × Int × Int × Int) : (f4 x).length = 4 := rfl
theorem f4_flat (l : List (Int × Int × Int × Int)) : (l.flatMap f4).length = l.length * 4 := flat_len f4_len l
theorem f4_ren (ι : Nat → Nat) (l : List (Int × Int × Int × Int)) : renL ι (l.flatMap f4) = l.flatMap f4 := renL_flat ι l (fun _ => rfl)
theorem f4_wf (m : Nat) (l : List (Int × Int × Int × Int)) : wfL m (l.flatMap f4) = true := wfL_flat m (fun _ => rfl) l
/-- The ends of the packets rise, from lo on, up to hi. -/
def Srt (lo : Int) : List (Int × Int × Int) → Int → Prop
  | [], hi => lo ≤ hi
  | x :: q, hi => lo ≤ x.2.2 ∧ Srt x.2.2 q hi
theorem Srt.le : ∀ {q : List (Int × Int × Int)} {lo hi : Int}, Srt lo q hi → lo ≤ hi
  | [], _, _, h => h
  | _ :: _, _, _, h => Int.le_trans h.1 h.2.le
theorem Srt.weak : ∀ {q : List (Int × Int × Int)} {lo l hi : Int}, Srt lo q hi → l ≤ lo → Srt l q hi
  | [], _, _, _, h, k => Int.le_trans k h
  | _ :: _, _, _, _, h, k => ⟨Int.le_trans k h.1, h.2⟩
theorem Srt.snoc : ∀ {q : List (Int × Int × Int)} {lo hi : Int}, Srt lo q hi → ∀ y : Int × Int × Int, hi ≤ y.2.2 → Srt lo (q ++ [y]) y.2.2
  | [], _, _, h, _, k => ⟨Int.le_trans h k, Int.le_refl _⟩
  | _ :: _, _, _, h, y, k => ⟨h.1, h.2.snoc y k⟩
theorem Srt.lf (c : Int) : ∀ {q : List (Int × Int × Int)} {lo hi : Int}, Srt lo q hi → Srt lo (left c q) hi
  | [], _, _, h => h
  | x :: q, lo, hi, h => by
    by_cases e : x.2.2 ≤ c
    · rw [(el1 e).2]; exact (h.2.lf c).weak h.1
    · rw [(el0 e).2]; exact h
theorem Srt.all {c : Int} : ∀ {q : List (Int × Int × Int)} {lo hi : Int}, Srt lo q hi → hi ≤ c → ended c q = q ∧ left c q = []
  | [], _, _, _, _ => ⟨rfl, rfl⟩
  | x :: q, lo, hi, h, k => by
    have e : x.2.2 ≤ c := Int.le_trans h.2.le k
    rw [(el1 e).1, (el1 e).2, (h.2.all k).1, (h.2.all k).2]
    exact ⟨rfl, rfl⟩
def sumN : List (Int × Int × Int) → Int
  | [] => 0
  | x :: q => x.2.1 + sumN q
theorem sumN_snoc : ∀ (q : List (Int × Int × Int)) (y : Int × Int × Int), sumN (q ++ [y]) = sumN q + y.2.1
  | [], y => by simp [sumN]
  | x :: q, y => by simp only [List.cons_append, sumN, sumN_snoc q y]; omega
def Fine (q : List (Int × Int × Int)) : Prop := ∀ x ∈ q, 1 ≤ x.2.1 ∧ x.2.1 ≤ 65536
theorem sumN_le : ∀ {q : List (Int × Int × Int)}, Fine q → 0 ≤ sumN q ∧ sumN q ≤ 65536 * q.length
  | [], _ => by simp [sumN]
  | x :: q, h => by
    have := sumN_le (q := q) (fun y hy => h y (by simp [hy]))
    have := h x (by simp)
    simp only [sumN, List.length_cons]
    omega
theorem subB_sum (c : Int) : ∀ {q : List (Int × Int × Int)}, Fine q → q.length ≤ 5000 → subB (sumN q) (ended c q) = sumN (left c q)
  | [], _, _ => rfl
  | x :: q, h, hl => by
    have hq : Fine q := fun y hy => h y (by simp [hy])
    have h1 := sumN_le hq
    have h2 := h x (by simp)
    rw [List.length_cons] at hl
    by_cases e : x.2.2 ≤ c
    · rw [(el1 e).1, (el1 e).2]
      show subB (IntKind.u64.wrap (x.2.1 + sumN q - IntKind.u64.wrap x.2.1)) (ended c q) = _
      rw [wrap_u64 (x := x.2.1) (by omega), wrap_u64 (by omega)]
      have e2 : x.2.1 + sumN q - x.2.1 = sumN q := by omega
      rw [e2]
      exact subB_sum c hq (by omega)
    · rw [(el0 e).1, (el0 e).2]; rfl
theorem ended_left (c : Int) (q : List (Int × Int × Int)) : ended c q ++ left c q = q := List.takeWhile_append_dropWhile
theorem fine_left (c : Int) {q : List (Int × Int × Int)} (h : Fine q) : Fine (left c q) := fun x hx => h x (by rw [← ended_left c q]; simp [hx])
theorem endAt_ge {clock last rate n now : Int} (h1 : 0 ≤ n) (h2 : U rate) (h3 : U last) : last ≤ endAt clock last rate n now := by
  have := (U_tm h1 h2).1
  have := h3.2
  unfold endAt sat
  split
  · have : last ≤ mxi (mxi clock now) last := by unfold mxi; (repeat' split) <;> omega
    omega
  · omega
theorem Ring.le {s : RS} {room : Nat} {rate : Int} {q : List (Int × Int × Int)} {clock last bytes : Int} {shut : Bool} (h : Ring s room rate q clock last bytes shut) : q.length ≤ room := by
  have h1 := h.rep.many
  have h2 := h.rep.ok.m1
  have h3 := h.len
  omega
theorem Ring.self {s : RS} {room : Nat} {rate : Int} {q : List (Int × Int × Int)} {clock last bytes : Int} {shut : Bool} (h : Ring s room rate q clock last bytes shut) : Ring s room rate q s.clock s.last s.bytes s.shut := ⟨h.rep, h.us, h.len, h.rate, rfl, rfl, rfl, rfl⟩
structure OS (room : Nat) (rate lst : Int) (s : RS) (D P : List Int) (q : List (Int × Int × Int)) : Prop where
  ring : Ring s room rate q s.clock s.last s.bytes s.shut
  srt : Srt lst q s.last
  sum : s.bytes = sumN q
  fine : Fine q
  all : P = D ++ q.map (fun x => x.1)
theorem OS.done {room : Nat} {rate lst : Int} {s : RS} {D P : List Int} {q : List (Int × Int × Int)} (h : OS room rate lst s D P q) (hr : room ≤ 5000) {s' : RS} {c : Int} {sh : Bool}
    (h' : Ring s' room rate (left c q) c s.last (subB s.bytes (ended c q)) sh) : OS room rate lst s' (D ++ (ended c q).map (fun x => x.1)) P (left c q) := by
  refine ⟨h'.self, ?_, ?_, fine_left c h.fine, ?_⟩
  · rw [h'.last]; exact h.srt.lf c
  · rw [h'.bytes, h.sum]; exact subB_sum c h.fine (by have := h.ring.le; omega)
  · rw [h.all, List.append_assoc, ← List.map_append, ended_left]
theorem OS.put {room : Nat} {rate lst : Int} {s : RS} {D P : List Int} {q : List (Int × Int × Int)} (h : OS room rate lst s D P q) (hr : room ≤ 5000) {s' : RS} {a n now c : Int} {sh : Bool} (h1 : 1 ≤ n) (h2 : n ≤ 65536)
    (h' : Ring s' room rate (q ++ [(a, n, endAt s.clock s.last rate n now)]) c (endAt s.clock s.last rate n now) (IntKind.u64.wrap (s.bytes + n)) sh) : OS room rate lst s' D (P ++ [a]) (q ++ [(a, n, endAt s.clock s.last rate n now)]) := by
  have hs := sumN_le h.fine
  have hl := h.ring.le
  refine ⟨h'.self, ?_, ?_, ?_, ?_⟩
  · rw [h'.last]
    exact h.srt.snoc _ (endAt_ge (by omega) (h.ring.rate ▸ h.ring.us.rate) h.ring.us.last)
  · rw [h'.bytes, h.sum, sumN_snoc, wrap_u64 (by omega)]
  · intro x hx
    rcases List.mem_append.1 hx with hx | hx
    · exact h.fine x hx
    · rw [List.mem_singleton] at hx; subst hx; exact ⟨h1, h2⟩
  · rw [h.all]; simp
theorem OS.next {room : Nat} {rate lst : Int} {s : RS} {D P : List Int} {x : Int × Int × Int} {q : List (Int × Int × Int)} (h : OS room rate lst s D P (x :: q)) : OS room rate x.2.2 s D P (x :: q) := ⟨h.ring, ⟨Int.le_refl _, h.srt.2⟩, h.sum, h.fine, h.all⟩
theorem put_any {s : RS} {room : Nat} {rate lst : Int} {D P : List Int} {q : List (Int × Int × Int)} (h : OS room rate lst s D P q) (hr : room ≤ 5000) (a n now : Int) (hw : U now) :
    SoundM Try.prog 2 10 [.p 0 0, .i .u64 a, .i .i64 n, .i .u64 now] s.heap (fun v H' => (v = .i .i64 0 ∧ ∃ s' y, OS room rate lst s' D (P ++ [a]) (q ++ [y]) ∧ y.1 = a ∧ H' = s'.heap) ∨ (∃ e, v = .i .i64 e ∧ (e == 0) = false ∧ H' = s.heap)) := by
  by_cases h1 : n < 1 ∨ n > 65536
  · exact (put_bad s a n now h1).mono fun v H' q => .inr ⟨2, q.1, rfl, q.2⟩
  · by_cases h2 : q.length = room
    · exact (ring_full h.ring a n now (by omega) (by omega) h2).mono fun v H' q => .inr ⟨4, q.1, rfl, q.2⟩
    · exact (ring_put h.ring a n now hw (by omega) (by omega) (by have := h.ring.le; omega)).mono fun v H' ⟨q1, s', q2, q3⟩ => .inl ⟨q1, s', _, h.put hr (by omega) (by omega) q2, rfl, q3⟩
theorem len_el (c : Int) (q : List (Int × Int × Int)) : (ended c q).length + (left c q).length = q.length := by
  have := congrArg List.length (ended_left c q)
  rwa [List.length_append] at this
theorem done_any {s : RS} {room : Nat} {rate lst : Int} {D P : List Int} {q : List (Int × Int × Int)} (h : OS room rate lst s D P q) (hr : room ≤ 5000) (now : Int) (hw : U now) :
    SoundM Try.prog 2 14 [.p 0 0, .i .u64 now] s.heap (fun v H' => ∃ s' E q', OS room rate lst s' (D ++ E) P q' ∧ E.length + q'.length = q.length ∧ v = outV E ∧ H' = s'.heap ++ outH E) :=
  (ring_done h.ring now hw).mono fun v H' ⟨s', q1, q2, q3⟩ => ⟨s', _, _, h.done hr q1, by rw [List.length_map]; exact len_el _ _, q2, q3⟩
theorem done_all {s : RS} {room : Nat} {rate lst : Int} {D P : List Int} {q : List (Int × Int × Int)} (h : OS room rate lst s D P q) (hr : room ≤ 5000) :
    SoundM Try.prog 2 14 [.p 0 0, .i .u64 18446744073709551615] s.heap (fun v H' => ∃ s' E, OS room rate lst s' P P [] ∧ s'.shut = false ∧ P = D ++ E ∧ v = outV E ∧ H' = s'.heap ++ outH E) := by
  refine (ring_done h.ring 18446744073709551615 (by decide)).mono fun v H' ⟨s', q1, q2, q3⟩ => ?_
  have hc : s.last ≤ mxi s.clock 18446744073709551615 := by
    have := h.ring.us.last.2
    unfold mxi
    split <;> omega
  obtain ⟨g1, g2⟩ := h.srt.all hc
  have ho := h.done hr q1
  rw [g1, g2, ← h.all] at ho
  rw [g2] at q1
  rw [g1] at q2 q3
  refine ⟨s', _, ho, ?_, h.all, q2, q3⟩
  rw [q1.shut, if_pos]
  simp only [List.length_nil]
  omega
def rcells (s : RS) : List Val := [.i .i64 s.first, .i .i64 s.many, .sl 2 0 s.l.length 3, .i .u64 s.rate, .i .u64 s.clock, .i .u64 s.last, .i .u64 s.bytes, .b s.shut]
theorem take_map' (d : List Int) : (d.map (Val.i .u64)).take d.length = d.map (.i .u64) := List.take_of_length_le (by simp)
theorem isl_all {H : Heap} (id : Nat) (D R : List Int) (h : H[id]? = some (.rw ((D ++ R).map (.i .u64)))) : IsSl H (.sl id 0 D.length 1) D := by
  refine .inr ⟨id, 0, _, rfl, h, ?_⟩
  intro j x hj
  have := (List.getElem?_eq_some_iff.1 hj).1
  rw [Nat.zero_add, List.getElem?_map, List.getElem?_append_left this, hj]; rfl
theorem isl_app {H : Heap} (id : Nat) {D E P : List Int} (hP : P = D ++ E) (h : H[id]? = some (.rw (D.map (.i .u64) ++ E.map (.i .u64)))) : IsSl H (.sl id 0 (D.length + E.length) 1) P := by
  have := isl_all (H := H) id P [] (by rw [h, hP]; simp)
  rw [hP, List.length_append] at this
  rw [hP]; exact this
end Go.Proofs.Ythpcdpnolmacpaa.IR
