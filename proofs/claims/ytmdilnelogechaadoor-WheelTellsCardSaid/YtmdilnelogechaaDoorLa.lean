/- This text of a proof shows: the document's numbers (add, times, slot, begin), and where a thing of its wheel stands; the document's wheel: New, Take, Next; and Ints; the document's wheel: Put; the document's wheel: Advance. -/
import Derived.Test.YtmdilnelogechaaDoorGg
import Derived.Test.YtmdilnelogechaaDoorWg
set_option linter.unusedVariables false
set_option linter.unusedSimpArgs false
set_option linter.constructorNameAsVariable false
namespace Go.Proofs.YtmdilnelogechaaDoor.IR
open Go Go.Proofs.YtmdilnelogechaaDoor.Ev Go.Proofs.YtmdilnelogechaaDoor.Ev.Rb Go.Proofs.YtmdilnelogechaaDoor.Ev.Wh Go.Proofs.YtmdilnelogechaaDoor.Ext Go.Proofs.YtmdilnelogechaaDoorW.PrintWords
set_option linter.unusedSimpArgs false
set_option linter.unusedVariables false
set_option maxHeartbeats 4000000
attribute [local go_sem] skipV nc0 nc1 nc2 nc3 bne_self_eq_false decide_true decide_false IOp.step Opd.ev Env.get initEnv Val.cells? Val.one List.all_cons List.all_nil Bool.and_true Bool.and_self Bool.true_and bin ints eqv Val.kindNo lenNo_s lenNo_nils lenNo_sl lenNo_nilm lenNo_m lenOf_s lenOf_nils lenOf_sl lenOf_nilm unary partsOf padTo List.foldl_cons List.foldl_nil wr_nil wr_step wr_zero List.set_cons_zero List.set_cons_succ List.map_cons List.map_nil z1 z2 Nat.succ_ne_zero List.length_cons List.length_nil List.cons_append List.nil_append List.append_nil List.getElem?_cons_zero List.getElem?_cons_succ List.getElem?_nil Option.map_some Option.map_none Nat.zero_add Nat.add_zero List.drop_zero List.drop_succ_cons List.take_succ_cons List.take_zero List.take_nil and_self and_true true_and Nat.le_refl Bool.not_true Bool.not_false Option.getD_some window Val.slen bnd resV resL RV.val Bool.false_eq_true BEq.rfl Bool.true_beq Bool.false_beq beq_true beq_false mk_one ite_true ite_false eqc ceqs ceq NOp.step isK eq_self
section
variable {H l : Heap} {k : Nat} {v : AObj}
theorem gA : (H ++ l)[H.length + k]? = l[k]? := by rw [List.getElem?_append_right (by omega)]; congr 1; omega
theorem gA0 : (H ++ l)[H.length]? = l[0]? := by rw [List.getElem?_append_right (by omega)]; congr 1; omega
theorem sA : (H ++ l).set (H.length + k) v = H ++ l.set k v := by rw [List.set_append_right _ _ (by omega)]; congr 2; omega
theorem sA0 : (H ++ l).set H.length v = H ++ l.set 0 v := by rw [List.set_append_right _ _ (by omega)]; congr 2; omega
end
attribute [local go_sem] nat_toNat gA gA0 sA sA0 List.append_assoc List.length_append Nat.add_assoc
/-- A slice, or nil. -/
def slV (o : Option (Nat × Nat)) (n sz : Nat) : Val := match o with
  | none => .nils
  | some (i, f) => .sl i f n sz
theorem slV_one (o : Option (Nat × Nat)) (n sz : Nat) : (slV o n sz).one = true := by rcases o with _ | ⟨i, f⟩ <;> rfl
theorem slV_no (o : Option (Nat × Nat)) (n sz : Nat) : (slV o n sz).lenNo = 2 := by rcases o with _ | ⟨i, f⟩ <;> rfl
theorem slV_len {o : Option (Nat × Nat)} {n : Nat} (h : o = none → n = 0) (sz : Nat) (H : Heap) : lenOf (slV o n sz) H = some (.i .i64 (n : Nat)) := by
  rcases o with _ | ⟨i, f⟩
  · rw [h rfl]; rfl
  · rfl
theorem dw_all (a b c d : Int) (k1 k2 k3 k4 : IntKind) (o p : Option (Nat × Nat)) (n m sz sz' : Nat) : ([Val.i k1 a, Val.i k2 b, Val.i k3 c, Val.i k4 d, slV o n sz, slV p m sz'] : List Val).all Val.one = true := by rcases o with _ | ⟨i, f⟩ <;> rcases p with _ | ⟨j, g⟩ <;> rfl
theorem dw_all2 (a b c d : Int) (k1 k2 k3 k4 : IntKind) (i f : Nat) (p : Option (Nat × Nat)) (n m sz sz' : Nat) : ([Val.i k1 a, Val.i k2 b, Val.i k3 c, Val.i k4 d, Val.sl i f n sz, slV p m sz'] : List Val).all Val.one = true := dw_all a b c d k1 k2 k3 k4 (some (i, f)) p n m sz sz'
theorem dw_all3 (a b c d : Int) (k1 k2 k3 k4 : IntKind) (i f : Nat) (o : Option (Nat × Nat)) (n m sz sz' : Nat) : ([Val.i k1 a, Val.i k2 b, Val.i k3 c, Val.i k4 d, slV o n sz, Val.sl i f m sz'] : List Val).all Val.one = true := dw_all a b c d k1 k2 k3 k4 o (some (i, f)) n m sz sz'
theorem slV_some (i f n sz : Nat) : slV (some (i, f)) n sz = .sl i f n sz := rfl
attribute [local go_sem high] slV_one slV_no dw_all
def dwV (S w room c : Nat) (vL vD : Val) : List Val := [.i .i64 (S : Nat), .i .u64 (w : Nat), .i .i64 (room : Nat), .i .u64 (c : Nat), vL, vD]
theorem radd_ok (a b : Nat) (ha : a ≤ 18446744073709551615) (hb : b ≤ 18446744073709551615) (H : Heap) : SoundCall Tryd.prog 58 [.i .u64 a, .i .u64 b] H (fun v H' => v = .i .u64 (satN (a + b) : Nat) ∧ H' = H) := by
  refine (sound_func Tryd.func58 c58 rfl (Nat.le_refl _) ?_)
  simp only [e58, s58]
  by_cases h : 18446744073709551615 - a < b
  · have d : ((b : Nat) : Int) > 18446744073709551615 - ((a : Nat) : Int) := by omega
    have e : satN (a + b) = 18446744073709551615 := by unfold satN; omega
    rw [e]
    (have g0 := decide_t d; refine GG1 ?_; clear g0)
    exact ⟨rfl, rfl⟩
  · have d : ¬ ((b : Nat) : Int) > 18446744073709551615 - ((a : Nat) : Int) := by omega
    have e : satN (a + b) = a + b := by unfold satN; omega
    rw [e]
    (have g0 := decide_f d; refine GG1 ?_; clear g0)
    exact ⟨rfl, rfl⟩
theorem rmul_ok (a b : Nat) (ha : a ≤ 18446744073709551615) (hb : b ≤ 18446744073709551615) (hb1 : 1 ≤ b) (H : Heap) : SoundCall Tryd.prog 59 [.i .u64 a, .i .u64 b] H (fun v H' => v = .i .u64 (satN (a * b) : Nat) ∧ H' = H) := by
  refine (sound_func Tryd.func59 c59 rfl (Nat.le_refl _) ?_)
  simp only [e59, s59]
  have hp : ((b : Nat) : Int) > 0 := by omega
  have hz : ¬ ((b : Nat) : Int) = 0 := by omega
  have e1 : (18446744073709551615 : Int).tdiv ((b : Nat) : Int) = ((18446744073709551615 / b : Nat) : Int) := by rw [show (18446744073709551615 : Int) = ((18446744073709551615 : Nat) : Int) from rfl, ← Int.ofNat_tdiv]
  have hq : 18446744073709551615 / b ≤ 18446744073709551615 := Nat.div_le_self _ _
  have hk : a ≤ 18446744073709551615 / b ↔ a * b ≤ 18446744073709551615 := Nat.le_div_iff_mul_le (by omega)
  generalize 18446744073709551615 / b = q at e1 hq hk
  by_cases h : a ≤ q
  · have d : ¬ ((a : Nat) : Int) > ((q : Nat) : Int) := by omega
    have hm := hk.1 h
    have e : satN (a * b) = a * b := by unfold satN; omega
    have e2 : ((a : Nat) : Int) * ((b : Nat) : Int) = ((a * b : Nat) : Int) := by rw [Int.natCast_mul]
    rw [e]
    generalize a * b = m at e2 hm
    (have g0 := decide_t hp; have g1 := e1; have g2 := decide_f d; have g3 := e2; refine GG4 ?_; clear g0 g1 g2 g3)
    exact ⟨rfl, rfl⟩
  · have d : ((a : Nat) : Int) > ((q : Nat) : Int) := by omega
    have e : satN (a * b) = 18446744073709551615 := by
      have : ¬ a * b ≤ 18446744073709551615 := fun g => h (hk.2 g)
      unfold satN; omega
    rw [e]
    (have g0 := decide_t hp; have g1 := e1; have g2 := decide_t d; refine GG3 ?_; clear g0 g1 g2)
    exact ⟨rfl, rfl⟩
theorem rslot_ok (t w : Nat) (ht : t ≤ 18446744073709551615) (hw1 : 1 ≤ w) (hw : w ≤ 18446744073709551615) (H : Heap) : SoundCall Tryd.prog 43 [.i .u64 t, .i .u64 w] H (fun v H' => v = .i .u64 (slotN t w : Nat) ∧ H' = H) := by
  refine (sound_func Tryd.func43 c43 rfl (Nat.le_refl _) ?_)
  simp only [e43, s43]
  have hz : (((w : Nat) : Int) == 0) = false := beq_false_of_ne (by omega)
  have hz2 : ¬ ((w : Nat) : Int) = 0 := by omega
  have e1 : ((t : Nat) : Int).tdiv ((w : Nat) : Int) = ((t / w : Nat) : Int) := by rw [← Int.ofNat_tdiv]
  have e2 : ((t : Nat) : Int).tmod ((w : Nat) : Int) = ((t % w : Nat) : Int) := by rw [tmodN _ _ (by omega) (by omega), Int.toNat_natCast]
  have hle := slotN_le t w hw1
  have hdm := Nat.div_add_mod t w
  have hlt := Nat.mod_lt t (show w > 0 by omega)
  have hq : t / w ≤ t := Nat.div_le_self _ _
  by_cases h : t % w = 0
  · have hb : (((t % w : Nat) : Int) == 0) = true := by rw [h]; rfl
    have e : slotN t w = t / w := by
      unfold slotN
      rw [h, Nat.add_zero] at hdm
      rw [show t + (w - 1) = (w - 1) + w * (t / w) by omega, Nat.add_mul_div_left _ _ (by omega), Nat.div_eq_of_lt (by omega), Nat.zero_add]
    rw [e]
    generalize t / w = q at e1 hq
    generalize t % w = r at e2 hb
    (have g0 := hz; have g1 := e1; have g2 := e2; have g3 := hb; refine GG4 ?_; clear g0 g1 g2 g3)
    exact ⟨rfl, rfl⟩
  · have hb : (((t % w : Nat) : Int) == 0) = false := beq_false_of_ne (by omega)
    have e : slotN t w = t / w + 1 := by
      unfold slotN
      rw [show t + (w - 1) = (t % w - 1) + w * (t / w + 1) by rw [Nat.mul_add]; omega, Nat.add_mul_div_left _ _ (by omega), Nat.div_eq_of_lt (by omega), Nat.zero_add]
    rw [e] at hle ⊢
    generalize t / w = q at e1 hq hle
    generalize t % w = r at e2 hb
    (have g0 := hz; have g1 := e1; have g2 := e2; have g3 := hb; refine GG4 ?_; clear g0 g1 g2 g3)
    exact ⟨rfl, rfl⟩
theorem rbegin_ok (s w : Nat) (hs : s ≤ 18446744073709551615) (hw1 : 1 ≤ w) (hw : w ≤ 18446744073709551615) (H : Heap) : SoundCall Tryd.prog 45 [.i .u64 s, .i .u64 w] H (fun v H' => v = .i .u64 (satN (s * w) : Nat) ∧ H' = H) := by
  refine (sound_func Tryd.func45 c45 rfl (Nat.le_refl _) ?_)
  simp only [e45, s45]
  have hz : (((w : Nat) : Int) == 0) = false := beq_false_of_ne (by omega)
  (have g0 := hz; refine GG1 ?_; clear g0)
  (first | ((with_reducible first | apply RunP.call | apply Run.call | apply Run.call0); iterate 2 (· (simp only [go_sem, reduceIte, Nat.reduceEqDiff]; (try with_reducible exact rfl)))) | ((with_reducible first | apply Run.callY | apply RunP.callY); iterate 3 (· (simp only [go_sem, reduceIte, Nat.reduceEqDiff]; (try with_reducible exact rfl)))))
  refine (rmul_ok s w hs hw hw1 _).mono ?_
  rintro v H' ⟨rfl, rfl⟩
  (first | refine And.intro rfl ?_ | refine And.intro trivial ?_ | skip)
  refine GG0 ?_
  exact ⟨rfl, rfl⟩
theorem rstands_ok (S w room c x : Nat) (oL oD : Option (Nat × Nat)) (nL nD : Nat) (hS1 : 1 ≤ S) (hS2 : S ≤ 4096) (hc : c ≤ 18446744073709551615) (hx : x ≤ 18446744073709551615) (H : Heap) :
    SoundCall Tryd.prog 44 [.agg (dwV S w room c (slV oL nL 3) (slV oD nD 1)), .i .u64 (x : Nat)] H (fun v H' => v = .i .u64 (stC S c (x : Nat) : Nat) ∧ H' = H ++ [.rw (dwV S w room c (slV oL nL 3) (slV oD nD 1))]) := by
  refine (sound_func Tryd.func44 c44 rfl (Nat.le_refl _) ?_)
  simp only [e44, s44, dwV]
  have e1 : ((S : Nat) : Int) - 1 = ((S - 1 : Nat) : Int) := by omega
  (have g0 := e1; refine GG1 ?_; clear g0)
  (first | ((with_reducible first | apply RunP.call | apply Run.call | apply Run.call0); iterate 2 (· (simp only [go_sem, reduceIte, Nat.reduceEqDiff]; (try with_reducible exact rfl)))) | ((with_reducible first | apply Run.callY | apply RunP.callY); iterate 3 (· (simp only [go_sem, reduceIte, Nat.reduceEqDiff]; (try with_reducible exact rfl)))))
  refine (radd_ok c (S - 1) hc (by omega) _).mono ?_
  rintro v H' ⟨rfl, rfl⟩
  (first | refine And.intro rfl ?_ | refine And.intro trivial ?_ | skip)
  have hu : satN (c + (S - 1)) ≤ 18446744073709551615 := by unfold satN; omega
  have hcu : c ≤ satN (c + (S - 1)) := by unfold satN; omega
  have est : ∀ y : Nat, stC S c (y : Nat) = min (max y c) (satN (c + (S - 1))) := fun y => by unfold stC; omega
  rw [est]
  generalize satN (c + (S - 1)) = u at hu hcu
  by_cases h1 : x < c
  · have d : ((x : Nat) : Int) < ((c : Nat) : Int) := by omega
    have e : min (max x c) u = c := by omega
    rw [e]
    (have g0 := decide_t d; refine GG1 ?_; clear g0)
    exact ⟨rfl, rfl⟩
  · have d : ¬ ((x : Nat) : Int) < ((c : Nat) : Int) := by omega
    by_cases h2 : u < x
    · have d2 : ((x : Nat) : Int) > ((u : Nat) : Int) := by omega
      have e : min (max x c) u = u := by omega
      rw [e]
      (have g0 := decide_f d; have g1 := decide_t d2; refine GG2 ?_; clear g0 g1)
      exact ⟨rfl, rfl⟩
    · have d2 : ¬ ((x : Nat) : Int) > ((u : Nat) : Int) := by omega
      have e : min (max x c) u = x := by omega
      rw [e]
      (have g0 := decide_f d; have g1 := decide_f d2; refine GG2 ?_; clear g0 g1)
      exact ⟨rfl, rfl⟩
end Go.Proofs.YtmdilnelogechaaDoor.IR
namespace Go.Proofs.YtmdilnelogechaaDoor.IR
open Go Go.Proofs.YtmdilnelogechaaDoor.Ev Go.Proofs.YtmdilnelogechaaDoor.Ev.Rb Go.Proofs.YtmdilnelogechaaDoor.Ev.Wh Go.Proofs.YtmdilnelogechaaDoor.Ext Go.Proofs.YtmdilnelogechaaDoorW.PrintWords
set_option linter.unusedSimpArgs false
set_option linter.unusedVariables false
set_option maxHeartbeats 4000000
attribute [local go_sem] skipV nc0 nc1 nc2 nc3 bne_self_eq_false decide_true decide_false IOp.step Opd.ev Env.get initEnv Val.cells? Val.one List.all_cons List.all_nil Bool.and_true Bool.and_self Bool.true_and bin ints eqv Val.kindNo lenNo_s lenNo_nils lenNo_sl lenNo_nilm lenNo_m lenOf_s lenOf_nils lenOf_sl lenOf_nilm unary partsOf padTo List.foldl_cons List.foldl_nil wr_nil wr_step wr_zero List.set_cons_zero List.set_cons_succ List.map_cons List.map_nil z1 z2 Nat.succ_ne_zero List.length_cons List.length_nil List.cons_append List.nil_append List.append_nil List.getElem?_cons_zero List.getElem?_cons_succ List.getElem?_nil Option.map_some Option.map_none Nat.zero_add Nat.add_zero List.drop_zero List.drop_succ_cons List.take_succ_cons List.take_zero List.take_nil and_self and_true true_and Nat.le_refl Bool.not_true Bool.not_false Option.getD_some window Val.slen bnd resV resL RV.val Bool.false_eq_true BEq.rfl Bool.true_beq Bool.false_beq beq_true beq_false mk_one ite_true ite_false eqc ceqs ceq NOp.step isK eq_self
attribute [local go_sem] nat_toNat gA gA0 sA sA0 List.append_assoc List.length_append Nat.add_assoc
attribute [local go_sem high] slV_one slV_no dw_all dw_all2 dw_all3 slV_some
/-- What waits, as the document keeps it: its number, its slot, where it stands. -/
def lC (L : Tl) : List Val := L.flatMap fun y => [.i .u64 y.1.2.2, .i .u64 y.1.1, .i .u64 (y.2 : Nat)]
theorem lC_len (L : Tl) : (lC L).length = L.length * 3 := by
  induction L with
  | nil => rfl
  | cons x l ih => simp [lC] at ih ⊢; omega
theorem lC_get : ∀ (L : Tl) (q : Nat) (y : Th × Nat), L[q]? = some y → (lC L)[q * 3]? = some (.i .u64 y.1.2.2) ∧ (lC L)[q * 3 + 1]? = some (.i .u64 y.1.1) ∧ (lC L)[q * 3 + 2]? = some (.i .u64 (y.2 : Nat))
  | [], q, y, h => by simp at h
  | x :: L, 0, y, h => by
    simp at h
    subst h
    exact ⟨rfl, rfl, rfl⟩
  | x :: L, q + 1, y, h => by
    have := lC_get L q y (by simpa using h)
    have e : ∀ d, (lC (x :: L))[(q + 1) * 3 + d]? = (lC L)[q * 3 + d]? := fun d => by
      rw [show (q + 1) * 3 + d = (q * 3 + d) + 3 by omega]; rfl
    exact ⟨by rw [← this.1]; exact e 0, by rw [← this.2.1]; exact e 1, by rw [← this.2.2]; exact e 2⟩
theorem hApp {H : Heap} {i : Nat} {o : AObj} (h : H[i]? = some o) : ∀ l, (H ++ l)[i]? = some o := fun l => by
  rw [List.getElem?_append_left (List.getElem?_eq_some_iff.1 h).1]; exact h
theorem rnew_ok (S w room : Nat) (hS : 2 ≤ S) (hS2 : S ≤ 4096) (hw : 1 ≤ w) (hw2 : w ≤ 1099511627776) (hr : 1 ≤ room) (hr2 : room ≤ 65536) (H : Heap) :
    SoundCall Tryd.prog 21 [.i .i64 (S : Nat), .i .u64 (w : Nat), .i .i64 (room : Nat)] H (fun v H' => v = .tup [.agg (dwV S w room 0 .nils .nils), .b true] ∧ ∃ N, H' = H ++ N) := by
  refine (sound_func Tryd.func21 c21 rfl (Nat.le_refl _) ?_)
  simp only [e21, s21, dwV]
  have d1 : ¬ ((S : Nat) : Int) < 2 := by omega
  have d2 : ¬ ((S : Nat) : Int) > 4096 := by omega
  have d3 : ¬ ((w : Nat) : Int) < 1 := by omega
  have d4 : ¬ ((w : Nat) : Int) > 1099511627776 := by omega
  have d5 : ¬ ((room : Nat) : Int) < 1 := by omega
  have d6 : ¬ ((room : Nat) : Int) > 65536 := by omega
  (have g0 := decide_f d1; have g1 := decide_f d2; have g2 := decide_f d3; have g3 := decide_f d4; have g4 := decide_f d5; have g5 := decide_f d6; refine GG6 ?_; clear g0 g1 g2 g3 g4 g5)
  exact ⟨rfl, _, rfl⟩
theorem rnext_none (S w room c : Nat) (oL oD : Option (Nat × Nat)) (nD : Nat) (H : Heap) :
    SoundCall Tryd.prog 25 [.agg (dwV S w room c (slV oL 0 3) (slV oD nD 1))] H (fun v H' => v = .tup [.i .u64 0, .b false] ∧ ∃ N, H' = H ++ N) := by
  refine (sound_func Tryd.func25 c25 rfl (Nat.le_refl _) ?_)
  simp only [e25, s25, dwV]
  have h1 := slV_len (o := oL) (n := 0) (fun _ => rfl) 3
  have h2 : (((0 : Nat) : Int) == 0) = true := rfl
  (have g0 := h1; have g1 := h2; refine GG2 ?_; clear g0 g1)
  exact ⟨rfl, _, rfl⟩
def RnI (L : Tl) (X : AObj) (H0 : Heap) (n : Nat) (ρ : Env) (H : Heap) : Prop :=
  ∃ (q m : Nat), 1 ≤ q ∧ q ≤ L.length ∧ n = L.length - q ∧ H = H0 ++ [X] ∧ (∃ y ∈ L, y.2 = m) ∧ (∀ z ∈ L.take q, m ≤ z.2) ∧
    Kp [(1, .p H0.length 0), (4, .i .u64 (m : Nat)), (5, .i .i64 (q : Nat))] ρ
theorem rnext_some (S w room c : Nat) (L : Tl) (i : Nat) (oD : Option (Nat × Nat)) (nD : Nat) (H : Heap) (hg : H[i]? = some (.rw (lC L))) (hn : L ≠ []) (hl : L.length ≤ 1000000) (hw1 : 1 ≤ w) (hw : w ≤ 18446744073709551615) (hm : ∀ y ∈ L, y.2 ≤ 18446744073709551615) :
    SoundCall Tryd.prog 25 [.agg (dwV S w room c (slV (some (i, 0)) L.length 3) (slV oD nD 1))] H (fun v H' => (∃ m, (∃ y ∈ L, y.2 = m) ∧ (∀ z ∈ L, m ≤ z.2) ∧ v = .tup [.i .u64 (satN (m * w) : Nat), .b true]) ∧ ∃ N, H' = H ++ N) := by
  refine (sound_func Tryd.func25 c25 rfl (Nat.le_refl _) ?_)
  simp only [e25, s25, dwV]
  have hlen : 0 < L.length := List.length_pos_iff.2 hn
  have h1 := slV_len (o := some (i, 0)) (n := L.length) (fun h => by cases h) 3
  have h2 : (((L.length : Nat) : Int) == 0) = false := beq_false_of_ne (by omega)
  have hga := hApp hg
  obtain ⟨y0, hy0⟩ : ∃ y, L[0]? = some y := ⟨L[0], List.getElem?_eq_getElem hlen⟩
  have hc0 := (lC_get L 0 y0 hy0).2.2
  simp only [Nat.zero_mul, Nat.zero_add] at hc0
  (have g0 := h1; have g1 := h2; have g2 := hga; have g3 := hc0; refine GG4 ?_; clear g0 g1 g2 g3)
  refine ei_loop (RnI L (.rw [.i .i64 (S : Nat), .i .u64 (w : Nat), .i .i64 (room : Nat), .i .u64 (c : Nat), .sl i 0 L.length 3, slV oD nD 1]) H) (n := L.length - 1) ?_ ?_
  · refine ⟨1, y0.2, Nat.le_refl _, hlen, rfl, rfl, ⟨y0, List.mem_of_getElem? hy0, rfl⟩, fun z hz => ?_, ?_⟩
    · rw [List.take_one, List.head?_eq_getElem?, hy0] at hz
      simp at hz
      subst hz
      exact Nat.le_refl _
    · simp [Kp, Env.get]
  · rintro n ρ H' ⟨q, m, hq1, hq, rfl, rfl, hat, hall, hρ⟩
    refine ei_few _ hρ ?_
    clear hρ
    obtain ⟨y, hy, hym⟩ := hat
    have hmle := hm y hy
    by_cases hql : q = L.length
    · subst hql
      have d : ¬ ((L.length : Nat) : Int) < ((L.length : Nat) : Int) := by omega
      rw [List.take_length] at hall
      (have g0 := decide_f d; refine GG1 ?_; clear g0)
      (first | ((with_reducible first | apply RunP.call | apply Run.call | apply Run.call0); iterate 2 (· (simp only [go_sem, reduceIte, Nat.reduceEqDiff]; (try with_reducible exact rfl)))) | ((with_reducible first | apply Run.callY | apply RunP.callY); iterate 3 (· (simp only [go_sem, reduceIte, Nat.reduceEqDiff]; (try with_reducible exact rfl)))))
      refine (rbegin_ok m w (by omega) hw1 hw _).mono ?_
      rintro v H' ⟨rfl, rfl⟩
      (first | refine And.intro rfl ?_ | refine And.intro trivial ?_ | skip)
      refine GG0 ?_
      exact ⟨⟨m, ⟨y, hy, hym⟩, hall, rfl⟩, _, rfl⟩
    · have d : ((q : Nat) : Int) < ((L.length : Nat) : Int) := by omega
      obtain ⟨z, hz⟩ : ∃ z, L[q]? = some z := ⟨L[q], List.getElem?_eq_getElem (by omega)⟩
      have hcz := (lC_get L q z hz).2.2
      have htk : L.take (q + 1) = L.take q ++ [z] := by rw [List.take_add_one, hz]; rfl
      have eq1 : ((q : Nat) : Int) + 1 = ((q + 1 : Nat) : Int) := rfl
      by_cases hlt : z.2 < m
      · have d2 : ((z.2 : Nat) : Int) < ((m : Nat) : Int) := by omega
        (have g0 := decide_t d; have g1 := hga; have g2 := hcz; have g3 := decide_t d2; have g4 := eq1; refine GG5 ?_; clear g0 g1 g2 g3 g4)
        refine ⟨L.length - (q + 1), by omega, q + 1, z.2, by omega, by omega, rfl, rfl, ⟨z, List.mem_of_getElem? hz, rfl⟩, fun x hx => ?_, ?_⟩
        · rw [htk] at hx
          rcases List.mem_append.1 hx with hx | hx
          · have := hall x hx; omega
          · simp at hx; subst hx; exact Nat.le_refl _
        · simp [Kp, Env.get]
      · have d2 : ¬ ((z.2 : Nat) : Int) < ((m : Nat) : Int) := by omega
        (have g0 := decide_t d; have g1 := hga; have g2 := hcz; have g3 := decide_f d2; have g4 := eq1; refine GG5 ?_; clear g0 g1 g2 g3 g4)
        refine ⟨L.length - (q + 1), by omega, q + 1, m, by omega, by omega, rfl, rfl, ⟨y, hy, hym⟩, fun x hx => ?_, ?_⟩
        · rw [htk] at hx
          rcases List.mem_append.1 hx with hx | hx
          · exact hall x hx
          · simp at hx; subst hx; omega
        · simp [Kp, Env.get]
theorem rtake_none (S w room c : Nat) (oL oD : Option (Nat × Nat)) (nL : Nat) (H : Heap) :
    SoundCall Tryd.prog 24 [.agg (dwV S w room c (slV oL nL 3) (slV oD 0 1))] H (fun v H' => v = .tup [.agg (dwV S w room c (slV oL nL 3) (slV oD 0 1)), .i .u64 0, .b false] ∧ ∃ N, H' = H ++ N) := by
  refine (sound_func Tryd.func24 c24 rfl (Nat.le_refl _) ?_)
  simp only [e24, s24, dwV]
  have h1 := slV_len (o := oD) (n := 0) (fun _ => rfl) 1
  have h2 : (((0 : Nat) : Int) == 0) = true := rfl
  (have g0 := h1; have g1 := h2; refine GG2 ?_; clear g0 g1)
  exact ⟨rfl, _, rfl⟩
theorem rtake_some (S w room c : Nat) (oL : Option (Nat × Nat)) (nL : Nat) (i : Nat) (a : List Val) (x : Int) (D : List Int) (H : Heap) (hg : H[i]? = some (.rw (a ++ n64 (x :: D)))) (hl : D.length ≤ 1000000) :
    SoundCall Tryd.prog 24 [.agg (dwV S w room c (slV oL nL 3) (slV (some (i, a.length)) (D.length + 1) 1))] H (fun v H' => v = .tup [.agg (dwV S w room c (slV oL nL 3) (slV (some (i, a.length + 1)) D.length 1)), .i .u64 x, .b true] ∧ ∃ N, H' = H ++ N) := by
  refine (sound_func Tryd.func24 c24 rfl (Nat.le_refl _) ?_)
  simp only [e24, s24, dwV]
  have h1 := slV_len (o := some (i, a.length)) (n := D.length + 1) (fun h => by cases h) 1
  have h2 : (((D.length + 1 : Nat) : Int) == 0) = false := beq_false_of_ne (by omega)
  have hga := hApp hg
  have hc : (a ++ n64 (x :: D))[a.length]? = some (.i .u64 x) := by rw [List.getElem?_append_right (Nat.le_refl _), Nat.sub_self]; rfl
  (have g0 := h1; have g1 := h2; have g2 := hga; have g3 := hc; refine GG4 ?_; clear g0 g1 g2 g3)
  exact ⟨rfl, _, rfl⟩
end Go.Proofs.YtmdilnelogechaaDoor.IR
namespace Go.Proofs.YtmdilnelogechaaDoor.IR
open Go Go.Proofs.YtmdilnelogechaaDoor.Ev Go.Proofs.YtmdilnelogechaaDoor.Ev.Rb Go.Proofs.YtmdilnelogechaaDoor.Ev.Wh Go.Proofs.YtmdilnelogechaaDoor.Ext Go.Proofs.YtmdilnelogechaaDoorW.PrintWords
set_option linter.unusedSimpArgs false
set_option linter.unusedVariables false
set_option maxHeartbeats 4000000
attribute [local go_sem] skipV nc0 nc1 nc2 nc3 bne_self_eq_false decide_true decide_false IOp.step Opd.ev Env.get initEnv Val.cells? Val.one List.all_cons List.all_nil Bool.and_true Bool.and_self Bool.true_and bin ints eqv Val.kindNo lenNo_s lenNo_nils lenNo_sl lenNo_nilm lenNo_m lenOf_s lenOf_nils lenOf_sl lenOf_nilm unary partsOf padTo List.foldl_cons List.foldl_nil wr_nil wr_step wr_zero List.set_cons_zero List.set_cons_succ List.map_cons List.map_nil z1 z2 Nat.succ_ne_zero List.length_cons List.length_nil List.cons_append List.nil_append List.append_nil List.getElem?_cons_zero List.getElem?_cons_succ List.getElem?_nil Option.map_some Option.map_none Nat.zero_add Nat.add_zero List.drop_zero List.drop_succ_cons List.take_succ_cons List.take_zero List.take_nil and_self and_true true_and Nat.le_refl Bool.not_true Bool.not_false Option.getD_some window Val.slen bnd resV resL RV.val Bool.false_eq_true BEq.rfl Bool.true_beq Bool.false_beq beq_true beq_false mk_one ite_true ite_false eqc ceqs ceq NOp.step isK eq_self
attribute [local go_sem] nat_toNat gA gA0 sA sA0 List.append_assoc List.length_append Nat.add_assoc
attribute [local go_sem high] slV_one slV_no dw_all dw_all2 dw_all3
/-- All of a slice is appended to another one. -/
theorem appE {e : Opd → Val} {H : Heap} {x y : Opd} {c new : List Val} {vy : Val} {id n sz bytes m : Nat} (hx : e x = .sl id 0 n sz) (hH : H[id]? = some (.rw c)) (hc : c.length = n * sz)
    (hy : e y = vy) (hw2 : window H vy sz = some new) (hm : vy.slen = m) (hb : (n + m) * bytes ≤ 140737488355328) :
    (IOp.app sz bytes x y).step e H = some (.sl H.length 0 (n + m) sz, H.set id .dead ++ [.rw (c ++ new)]) := by
  have hw0 : window H (.sl id 0 n sz) sz = some c := by
    simp only [window, if_true, hH]
    rw [if_pos (by omega), List.drop_zero, List.take_of_length_le (by omega)]
  simp only [IOp.step, hy, hw2, hm]
  rw [hx, hw0]
  simp only [hH]
  rw [if_pos (show ((Val.sl id 0 n sz).slen + m) * bytes ≤ 140737488355328 from hb)]
def LSl (H : Heap) (o : Option (Nat × Nat)) (L : Tl) : Prop := (o = none ∧ L = []) ∨ ∃ i, o = some (i, 0) ∧ H[i]? = some (.rw (lC L))
theorem LSl.win {H : Heap} {o : Option (Nat × Nat)} {L : Tl} (h : LSl H o L) (l : Heap) : window (H ++ l) (slV o L.length 3) 3 = some (lC L) := by
  rcases h with ⟨rfl, rfl⟩ | ⟨i, rfl, h⟩
  · rfl
  · have h2 := hApp h l
    simp only [slV, window, if_true, h2]
    have := lC_len L
    rw [if_pos (by omega), List.drop_zero, List.take_of_length_le (by omega)]
theorem LSl.no {H : Heap} {o : Option (Nat × Nat)} {L : Tl} (h : LSl H o L) : o = none → L.length = 0 := fun e => by
  rcases h with ⟨_, rfl⟩ | ⟨i, rfl, _⟩
  · rfl
  · cases e
theorem LSl.app {H : Heap} {o : Option (Nat × Nat)} {L : Tl} (h : LSl H o L) (l : Heap) : LSl (H ++ l) o L := by
  rcases h with h | ⟨i, h1, h2⟩
  · exact .inl h
  · exact .inr ⟨i, h1, hApp h2 l⟩
def DuS (H : Heap) (o : Option (Nat × Nat)) (D : List Int) : Prop := (o = none ∧ D = []) ∨ ∃ i a, o = some (i, List.length a) ∧ H[i]? = some (.rw (a ++ n64 D))
theorem DuS.no {H : Heap} {o : Option (Nat × Nat)} {D : List Int} (h : DuS H o D) : o = none → D.length = 0 := fun e => by
  rcases h with ⟨_, rfl⟩ | ⟨i, a, rfl, _⟩
  · rfl
  · cases e
theorem DuS.app {H : Heap} {o : Option (Nat × Nat)} {D : List Int} (h : DuS H o D) (l : Heap) : DuS (H ++ l) o D := by
  rcases h with h | ⟨i, a, h1, h2⟩
  · exact .inl h
  · exact .inr ⟨i, a, h1, hApp h2 l⟩
theorem DuS.win {H : Heap} {o : Option (Nat × Nat)} {D : List Int} (h : DuS H o D) (l : Heap) : window (H ++ l) (slV o D.length 1) 1 = some (n64 D) := by
  rcases h with ⟨rfl, rfl⟩ | ⟨i, a, rfl, h⟩
  · rfl
  · have h2 := hApp h l
    simp only [slV, window, if_true, h2]
    have := n64_len D
    rw [List.length_append, if_pos (by omega), List.drop_left, List.take_of_length_le (by omega)]
theorem slV_slen {o : Option (Nat × Nat)} {n : Nat} (h : o = none → n = 0) (sz : Nat) : (slV o n sz).slen = n := by
  rcases o with _ | ⟨i, f⟩
  · rw [h rfl]; rfl
  · rfl
theorem rput_full (S w room c : Nat) (oL oD : Option (Nat × Nat)) (nL nD : Nat) (h1 : oL = none → nL = 0) (h2 : oD = none → nD = 0) (hl : nL + nD ≤ 1000000) (hr : room ≤ nL + nD) (x : Int) (t : Nat) (H : Heap) :
    SoundCall Tryd.prog 22 [.agg (dwV S w room c (slV oL nL 3) (slV oD nD 1)), .i .u64 x, .i .u64 (t : Nat)] H (fun v H' => v = .tup [.agg (dwV S w room c (slV oL nL 3) (slV oD nD 1)), .i .i64 4] ∧ ∃ N, H' = H ++ N) := by
  refine (sound_func Tryd.func22 c22 rfl (Nat.le_refl _) ?_)
  simp only [e22, s22, dwV]
  have e1 := slV_len h1 3
  have e2 := slV_len h2 1
  have d : ((nL : Nat) : Int) + ((nD : Nat) : Int) ≥ ((room : Nat) : Int) := by omega
  (have g0 := e1; have g1 := e2; have g2 := decide_t d; refine GG3 ?_; clear g0 g1 g2)
  exact ⟨rfl, _, rfl⟩
theorem rput_ok (S w room c : Nat) (oL oD : Option (Nat × Nat)) (L : Tl) (nD : Nat) (H : Heap) (hL : LSl H oL L) (h2 : oD = none → nD = 0) (hl : L.length + nD ≤ 1000000) (hr : L.length + nD < room) (hS1 : 1 ≤ S) (hS2 : S ≤ 4096) (hw1 : 1 ≤ w) (hw : w ≤ 18446744073709551615) (hc : c ≤ 18446744073709551615) (x n : Int) (t : Nat) (ht : t ≤ 18446744073709551615) :
    SoundCall Tryd.prog 22 [.agg (dwV S w room c (slV oL L.length 3) (slV oD nD 1)), .i .u64 x, .i .u64 (t : Nat)] H (fun v H' => ∃ j N, v = .tup [.agg (dwV S w room c (slV (some (j, 0)) (L.length + 1) 3) (slV oD nD 1)), .i .i64 0] ∧ H' = H ++ N ∧ H.length ≤ j ∧ H'[j]? = some (.rw (lC (L ++ [((((slotN t w : Nat) : Int), n, x), stC S c (slotN t w : Nat))])))) := by
  refine (sound_func Tryd.func22 c22 rfl (Nat.le_refl _) ?_)
  simp only [e22, s22, dwV]
  have e1 := slV_len hL.no 3
  have e2 := slV_len h2 1
  have e3 := slV_slen hL.no 3
  have hwin := hL.win
  have hsl := slotN_le t w hw1
  have d : ¬ ((L.length : Nat) : Int) + ((nD : Nat) : Int) ≥ ((room : Nat) : Int) := by omega
  (have g0 := e1; have g1 := e2; have g2 := decide_f d; refine GG3 ?_; clear g0 g1 g2)
  (first | ((with_reducible first | apply RunP.call | apply Run.call | apply Run.call0); iterate 2 (· (simp only [go_sem, reduceIte, Nat.reduceEqDiff]; (try with_reducible exact rfl)))) | ((with_reducible first | apply Run.callY | apply RunP.callY); iterate 3 (· (simp only [go_sem, reduceIte, Nat.reduceEqDiff]; (try with_reducible exact rfl)))))
  refine (rslot_ok t w ht hw1 hw _).mono ?_
  rintro v H' ⟨rfl, rfl⟩
  (first | refine And.intro rfl ?_ | refine And.intro trivial ?_ | skip)
  refine GN0 ?_
  refine ei_dregD ?_
  ((apply RunD.al); (· rfl); (· rfl); (· (simp only [go_sem, Int.reduceBEq, Int.reduceBNe, Int.reduceLT, Int.reduceLE, Int.reduceAdd, Int.reduceSub, Int.reduceToNat, reduceIte, Nat.reduceEqDiff, Nat.reduceAdd, Nat.reduceMul, Nat.reduceLeDiff, Nat.reduceSub, reduceCtorEq]; (try simp (disch := omega) only [OM, mn_lo, mn_hi, mx_lo, mx_hi, if_yes, if_no, Option.map_some]); (try with_reducible exact rfl))))
  repeat (first
    | ((with_reducible apply RunD.op0); (· rfl); (· rfl); (· (simp only [go_sem, Int.reduceBEq, Int.reduceBNe, Int.reduceLT, Int.reduceLE, Int.reduceAdd, Int.reduceSub, Int.reduceToNat, reduceIte, Nat.reduceEqDiff, Nat.reduceAdd, Nat.reduceMul, Nat.reduceLeDiff, Nat.reduceSub, reduceCtorEq]; (try simp (disch := omega) only [OM, mn_lo, mn_hi, mx_lo, mx_hi, if_yes, if_no, Option.map_some]); (try with_reducible exact rfl)))) | ((with_reducible apply RunD.op1); (· rfl); (· rfl); (· (simp only [go_sem, Int.reduceBEq, Int.reduceBNe, Int.reduceLT, Int.reduceLE, Int.reduceAdd, Int.reduceSub, Int.reduceToNat, reduceIte, Nat.reduceEqDiff, Nat.reduceAdd, Nat.reduceMul, Nat.reduceLeDiff, Nat.reduceSub, reduceCtorEq]; (try simp (disch := omega) only [OM, mn_lo, mn_hi, mx_lo, mx_hi, if_yes, if_no, Option.map_some]); (try with_reducible exact rfl)))) | (with_reducible apply RunD.nil))
  refine RunD.app rfl rfl (appE (id := H.length + 2) (n := 0) (c := []) (m := L.length) (new := lC L) (by (simp only [go_sem, reduceIte, Nat.reduceEqDiff]; (try with_reducible exact rfl))) (by (simp only [go_sem, reduceIte, Nat.reduceEqDiff]; (try with_reducible exact rfl))) rfl (by (simp only [go_sem, reduceIte, Nat.reduceEqDiff]; (try with_reducible exact rfl))) (by first | exact hwin _ | (simp only [List.append_assoc]; exact hwin _)) e3 (by omega)) ?_ ?_
  · (repeat (first | exact recheck_nil | (refine rc_in (by decide) ?_) | (refine rc_now (by (simp only [go_sem, Int.reduceBEq, Int.reduceBNe, Int.reduceLT, Int.reduceLE, Int.reduceAdd, Int.reduceSub, Int.reduceToNat, reduceIte, Nat.reduceEqDiff, Nat.reduceAdd, Nat.reduceMul, Nat.reduceLeDiff, Nat.reduceSub, reduceCtorEq]; (try simp (disch := omega) only [OM, mn_lo, mn_hi, mx_lo, mx_hi, if_yes, if_no, Option.map_some]); (try with_reducible exact rfl))) ?_)))
  repeat (first
    | ((with_reducible apply RunD.op0); (· rfl); (· rfl); (· (simp only [go_sem, Int.reduceBEq, Int.reduceBNe, Int.reduceLT, Int.reduceLE, Int.reduceAdd, Int.reduceSub, Int.reduceToNat, reduceIte, Nat.reduceEqDiff, Nat.reduceAdd, Nat.reduceMul, Nat.reduceLeDiff, Nat.reduceSub, reduceCtorEq]; (try simp (disch := omega) only [OM, mn_lo, mn_hi, mx_lo, mx_hi, if_yes, if_no, Option.map_some]); (try with_reducible exact rfl)))) | ((with_reducible apply RunD.op1); (· rfl); (· rfl); (· (simp only [go_sem, Int.reduceBEq, Int.reduceBNe, Int.reduceLT, Int.reduceLE, Int.reduceAdd, Int.reduceSub, Int.reduceToNat, reduceIte, Nat.reduceEqDiff, Nat.reduceAdd, Nat.reduceMul, Nat.reduceLeDiff, Nat.reduceSub, reduceCtorEq]; (try simp (disch := omega) only [OM, mn_lo, mn_hi, mx_lo, mx_hi, if_yes, if_no, Option.map_some]); (try with_reducible exact rfl)))) | (with_reducible apply RunD.nil))
  ((with_reducible apply RunD.call); (· rfl); (· (simp only [go_sem, reduceIte, Nat.reduceEqDiff]; (try with_reducible exact rfl))); (· (simp only [go_sem, reduceIte, Nat.reduceEqDiff]; (try with_reducible exact rfl))))
  refine (rstands_ok S w room c (slotN t w) oL oD L.length nD hS1 hS2 hc (by omega) _).mono ?_
  rintro v H' ⟨rfl, rfl⟩
  simp only [dwV]
  refine ⟨?_, ?_⟩
  · (repeat (first | exact recheck_nil | (refine rc_in (by decide) ?_) | (refine rc_now (by (simp only [go_sem, Int.reduceBEq, Int.reduceBNe, Int.reduceLT, Int.reduceLE, Int.reduceAdd, Int.reduceSub, Int.reduceToNat, reduceIte, Nat.reduceEqDiff, Nat.reduceAdd, Nat.reduceMul, Nat.reduceLeDiff, Nat.reduceSub, reduceCtorEq]; (try simp (disch := omega) only [OM, mn_lo, mn_hi, mx_lo, mx_hi, if_yes, if_no, Option.map_some]); (try with_reducible exact rfl))) ?_)))
  repeat (first
    | ((with_reducible apply RunD.op0); (· rfl); (· rfl); (· (simp only [go_sem, Int.reduceBEq, Int.reduceBNe, Int.reduceLT, Int.reduceLE, Int.reduceAdd, Int.reduceSub, Int.reduceToNat, reduceIte, Nat.reduceEqDiff, Nat.reduceAdd, Nat.reduceMul, Nat.reduceLeDiff, Nat.reduceSub, reduceCtorEq]; (try simp (disch := omega) only [OM, mn_lo, mn_hi, mx_lo, mx_hi, if_yes, if_no, Option.map_some]); (try with_reducible exact rfl)))) | ((with_reducible apply RunD.op1); (· rfl); (· rfl); (· (simp only [go_sem, Int.reduceBEq, Int.reduceBNe, Int.reduceLT, Int.reduceLE, Int.reduceAdd, Int.reduceSub, Int.reduceToNat, reduceIte, Nat.reduceEqDiff, Nat.reduceAdd, Nat.reduceMul, Nat.reduceLeDiff, Nat.reduceSub, reduceCtorEq]; (try simp (disch := omega) only [OM, mn_lo, mn_hi, mx_lo, mx_hi, if_yes, if_no, Option.map_some]); (try with_reducible exact rfl)))) | (with_reducible apply RunD.nil))
  ((apply RunD.al); (· rfl); (· rfl); (· (simp only [go_sem, Int.reduceBEq, Int.reduceBNe, Int.reduceLT, Int.reduceLE, Int.reduceAdd, Int.reduceSub, Int.reduceToNat, reduceIte, Nat.reduceEqDiff, Nat.reduceAdd, Nat.reduceMul, Nat.reduceLeDiff, Nat.reduceSub, reduceCtorEq]; (try simp (disch := omega) only [OM, mn_lo, mn_hi, mx_lo, mx_hi, if_yes, if_no, Option.map_some]); (try with_reducible exact rfl))))
  repeat (first
    | ((with_reducible apply RunD.op0); (· rfl); (· rfl); (· (simp only [go_sem, Int.reduceBEq, Int.reduceBNe, Int.reduceLT, Int.reduceLE, Int.reduceAdd, Int.reduceSub, Int.reduceToNat, reduceIte, Nat.reduceEqDiff, Nat.reduceAdd, Nat.reduceMul, Nat.reduceLeDiff, Nat.reduceSub, reduceCtorEq]; (try simp (disch := omega) only [OM, mn_lo, mn_hi, mx_lo, mx_hi, if_yes, if_no, Option.map_some]); (try with_reducible exact rfl)))) | ((with_reducible apply RunD.op1); (· rfl); (· rfl); (· (simp only [go_sem, Int.reduceBEq, Int.reduceBNe, Int.reduceLT, Int.reduceLE, Int.reduceAdd, Int.reduceSub, Int.reduceToNat, reduceIte, Nat.reduceEqDiff, Nat.reduceAdd, Nat.reduceMul, Nat.reduceLeDiff, Nat.reduceSub, reduceCtorEq]; (try simp (disch := omega) only [OM, mn_lo, mn_hi, mx_lo, mx_hi, if_yes, if_no, Option.map_some]); (try with_reducible exact rfl)))) | (with_reducible apply RunD.nil))
  refine RunD.app rfl rfl (appE (id := H.length + 3) (n := L.length) (c := lC L) (m := 1) (new := [.i .u64 x, .i .u64 (slotN t w : Nat), .i .u64 (stC S c (slotN t w : Nat) : Nat)]) (by (simp only [go_sem, reduceIte, Nat.reduceEqDiff]; (try with_reducible exact rfl))) (by (simp only [go_sem, reduceIte, Nat.reduceEqDiff]; (try with_reducible exact rfl))) (lC_len L) (by (simp only [go_sem, reduceIte, Nat.reduceEqDiff]; (try with_reducible exact rfl))) (by (simp only [go_sem, reduceIte, Nat.reduceEqDiff]; (try with_reducible exact rfl))) rfl (by omega)) ?_ ?_
  · (repeat (first | exact recheck_nil | (refine rc_in (by decide) ?_) | (refine rc_now (by (simp only [go_sem, Int.reduceBEq, Int.reduceBNe, Int.reduceLT, Int.reduceLE, Int.reduceAdd, Int.reduceSub, Int.reduceToNat, reduceIte, Nat.reduceEqDiff, Nat.reduceAdd, Nat.reduceMul, Nat.reduceLeDiff, Nat.reduceSub, reduceCtorEq]; (try simp (disch := omega) only [OM, mn_lo, mn_hi, mx_lo, mx_hi, if_yes, if_no, Option.map_some]); (try with_reducible exact rfl))) ?_)))
  repeat (first
    | ((with_reducible apply RunD.op0); (· rfl); (· rfl); (· (simp only [go_sem, Int.reduceBEq, Int.reduceBNe, Int.reduceLT, Int.reduceLE, Int.reduceAdd, Int.reduceSub, Int.reduceToNat, reduceIte, Nat.reduceEqDiff, Nat.reduceAdd, Nat.reduceMul, Nat.reduceLeDiff, Nat.reduceSub, reduceCtorEq]; (try simp (disch := omega) only [OM, mn_lo, mn_hi, mx_lo, mx_hi, if_yes, if_no, Option.map_some]); (try with_reducible exact rfl)))) | ((with_reducible apply RunD.op1); (· rfl); (· rfl); (· (simp only [go_sem, Int.reduceBEq, Int.reduceBNe, Int.reduceLT, Int.reduceLE, Int.reduceAdd, Int.reduceSub, Int.reduceToNat, reduceIte, Nat.reduceEqDiff, Nat.reduceAdd, Nat.reduceMul, Nat.reduceLeDiff, Nat.reduceSub, reduceCtorEq]; (try simp (disch := omega) only [OM, mn_lo, mn_hi, mx_lo, mx_hi, if_yes, if_no, Option.map_some]); (try with_reducible exact rfl)))) | (with_reducible apply RunD.nil))
  ((apply RunD.st); (· rfl); (· rfl); (· (simp only [go_sem, Int.reduceBEq, Int.reduceBNe, Int.reduceLT, Int.reduceLE, Int.reduceAdd, Int.reduceSub, Int.reduceToNat, reduceIte, Nat.reduceEqDiff, Nat.reduceAdd, Nat.reduceMul, Nat.reduceLeDiff, Nat.reduceSub, reduceCtorEq]; (try simp (disch := omega) only [OM, mn_lo, mn_hi, mx_lo, mx_hi, if_yes, if_no, Option.map_some]); (try with_reducible exact rfl))))
  · (repeat (first | exact recheck_nil | (refine rc_in (by decide) ?_) | (refine rc_now (by (simp only [go_sem, Int.reduceBEq, Int.reduceBNe, Int.reduceLT, Int.reduceLE, Int.reduceAdd, Int.reduceSub, Int.reduceToNat, reduceIte, Nat.reduceEqDiff, Nat.reduceAdd, Nat.reduceMul, Nat.reduceLeDiff, Nat.reduceSub, reduceCtorEq]; (try simp (disch := omega) only [OM, mn_lo, mn_hi, mx_lo, mx_hi, if_yes, if_no, Option.map_some]); (try with_reducible exact rfl))) ?_)))
  repeat (first
    | ((with_reducible apply RunD.op0); (· rfl); (· rfl); (· (simp only [go_sem, Int.reduceBEq, Int.reduceBNe, Int.reduceLT, Int.reduceLE, Int.reduceAdd, Int.reduceSub, Int.reduceToNat, reduceIte, Nat.reduceEqDiff, Nat.reduceAdd, Nat.reduceMul, Nat.reduceLeDiff, Nat.reduceSub, reduceCtorEq]; (try simp (disch := omega) only [OM, mn_lo, mn_hi, mx_lo, mx_hi, if_yes, if_no, Option.map_some]); (try with_reducible exact rfl)))) | ((with_reducible apply RunD.op1); (· rfl); (· rfl); (· (simp only [go_sem, Int.reduceBEq, Int.reduceBNe, Int.reduceLT, Int.reduceLE, Int.reduceAdd, Int.reduceSub, Int.reduceToNat, reduceIte, Nat.reduceEqDiff, Nat.reduceAdd, Nat.reduceMul, Nat.reduceLeDiff, Nat.reduceSub, reduceCtorEq]; (try simp (disch := omega) only [OM, mn_lo, mn_hi, mx_lo, mx_hi, if_yes, if_no, Option.map_some]); (try with_reducible exact rfl)))) | (with_reducible apply RunD.nil))
  refine GG0 ?_
  refine ⟨_, _, rfl, rfl, Nat.le_add_right _ _, ?_⟩
  simp [gA, lC]
end Go.Proofs.YtmdilnelogechaaDoor.IR
namespace Go.Proofs.YtmdilnelogechaaDoor.IR
open Go Go.Proofs.YtmdilnelogechaaDoor.Ev Go.Proofs.YtmdilnelogechaaDoor.Ev.Rb Go.Proofs.YtmdilnelogechaaDoor.Ev.Wh Go.Proofs.YtmdilnelogechaaDoor.Ext Go.Proofs.YtmdilnelogechaaDoorW.PrintWords
set_option linter.unusedSimpArgs false
set_option linter.unusedVariables false
set_option maxHeartbeats 4000000
attribute [local go_sem] skipV nc0 nc1 nc2 nc3 bne_self_eq_false decide_true decide_false IOp.step Opd.ev Env.get initEnv Val.cells? Val.one List.all_cons List.all_nil Bool.and_true Bool.and_self Bool.true_and bin ints eqv Val.kindNo lenNo_s lenNo_nils lenNo_sl lenNo_nilm lenNo_m lenOf_s lenOf_nils lenOf_sl lenOf_nilm unary partsOf padTo List.foldl_cons List.foldl_nil wr_nil wr_step wr_zero List.set_cons_zero List.set_cons_succ List.map_cons List.map_nil z1 z2 Nat.succ_ne_zero List.length_cons List.length_nil List.cons_append List.nil_append List.append_nil List.getElem?_cons_zero List.getElem?_cons_succ List.getElem?_nil Option.map_some Option.map_none Nat.zero_add Nat.add_zero List.drop_zero List.drop_succ_cons List.take_succ_cons List.take_zero List.take_nil and_self and_true true_and Nat.le_refl Bool.not_true Bool.not_false Option.getD_some window Val.slen bnd resV resL RV.val Bool.false_eq_true BEq.rfl Bool.true_beq Bool.false_beq beq_true beq_false mk_one ite_true ite_false eqc ceqs ceq NOp.step isK eq_self
attribute [local go_sem] nat_toNat gA gA0 sA sA0 List.append_assoc List.length_append List.length_set Nat.add_assoc Nat.sub_zero wr1
attribute [local go_sem high] slV_one slV_no dw_all dw_all2 dw_all3
section
variable {P : Program} {pre : Nat → Nat → Bool} {its : List RItem} {r : List Nat} {wt : Watch} {ρ : Env} {H : Heap} {K : Env → Heap → Prop} {i d : Nat} {it : RItem}
end
theorem lC_append (L M : Tl) : lC (L ++ M) = lC L ++ lC M := by simp [lC]
theorem lC_take (L : Tl) (b : Nat) (hb : b ≤ L.length) : (lC L).take (b * 3) = lC (L.take b) := by
  have e : lC L = lC (L.take b) ++ lC (L.drop b) := by rw [← lC_append, List.take_append_drop]
  have hl : (lC (L.take b)).length = b * 3 := by rw [lC_len, List.length_take]; congr 1; omega
  rw [e, ← hl, List.take_left]
theorem lC_drop (L : Tl) (b : Nat) (hb : b ≤ L.length) : (lC L).drop (b * 3) = lC (L.drop b) := by
  have e : lC L = lC (L.take b) ++ lC (L.drop b) := by rw [← lC_append, List.take_append_drop]
  have hl : (lC (L.take b)).length = b * 3 := by rw [lC_len, List.length_take]; congr 1; omega
  rw [e, ← hl, List.drop_left]
theorem rcut {e : Opd → Val} {H : Heap} {x y : Opd} {L : Tl} {id b : Nat} (hx : e x = .sl id 0 b 3) (hy : e y = .sl id ((b + 1) * 3) (L.length - (b + 1)) 3) (hH : H[id]? = some (.rw (lC L))) (hb : b < L.length) (hl : L.length ≤ 1000000) :
    (IOp.app 3 24 x y).step e H = some (.sl H.length 0 (L.length - 1) 3, H.set id .dead ++ [.rw (lC (L.eraseIdx b))]) := by
  have h1 : window H (.sl id 0 b 3) 3 = some (lC (L.take b)) := by
    simp only [window, if_true, hH]
    rw [if_pos (by rw [lC_len]; omega), List.drop_zero, lC_take _ _ (by omega)]
  have h2 : window H (.sl id ((b + 1) * 3) (L.length - (b + 1)) 3) 3 = some (lC (L.drop (b + 1))) := by
    simp only [window, if_true, hH]
    rw [if_pos (by rw [lC_len]; omega), lC_drop _ _ (by omega), List.take_of_length_le (by rw [lC_len, List.length_drop]; omega)]
  simp only [IOp.step, hx, hy, h1, h2, Val.slen]
  rw [if_pos (by omega)]
  simp only [hH]
  rw [← lC_append, ← List.eraseIdx_eq_take_drop_succ, show b + (L.length - (b + 1)) = L.length - 1 by omega]
/-- Where all stands in the heap of an Advance. -/
structure AH (N : Heap) (jl jd : Nat) (L : Tl) (D : List Int) (X Z : AObj) : Prop where
  l : N[jl]? = some (.rw (lC L))
  d : N[jd]? = some (.rw (n64 D))
  x : N[0]? = some X
  z : N[1]? = some Z
  ne : jl ≠ jd
  l2 : 2 ≤ jl
  d2 : 2 ≤ jd
theorem AH.due {N : Heap} {jl jd : Nat} {L : Tl} {D : List Int} {X Z : AObj} (h : AH N jl jd L D X Z) (v : Int) (o : AObj) : AH ((N ++ [o]).set jd .dead ++ [.rw (n64 D ++ [.i .u64 v])]) jl (N.length + 1) L (D ++ [v]) X Z := by
  have hl := (List.getElem?_eq_some_iff.1 h.l).1
  have hd := (List.getElem?_eq_some_iff.1 h.d).1
  have key : ∀ i, i < N.length → i ≠ jd → ((N ++ [o]).set jd .dead ++ [.rw (n64 D ++ [.i .u64 v])])[i]? = N[i]? := fun i hi hn => by
    rw [List.getElem?_append_left (by simp; omega), List.getElem?_set_ne (Ne.symm hn), List.getElem?_append_left hi]
  refine ⟨by rw [key _ hl h.ne]; exact h.l, ?_, by rw [key _ (by omega) (by have := h.d2; omega)]; exact h.x, by rw [key _ (by have := h.d2; omega) (by have := h.d2; omega)]; exact h.z, by omega, h.l2, by have := h.d2; omega⟩
  rw [List.getElem?_append_right (by simp)]
  simp [n64]
theorem AH.row {N : Heap} {jl jd : Nat} {L : Tl} {D : List Int} {X Z : AObj} (h : AH N jl jd L D X Z) (L' : Tl) : AH (N.set jl .dead ++ [.rw (lC L')]) N.length jd L' D X Z := by
  have hl := (List.getElem?_eq_some_iff.1 h.l).1
  have hd := (List.getElem?_eq_some_iff.1 h.d).1
  have key : ∀ i, i < N.length → i ≠ jl → (N.set jl .dead ++ [.rw (lC L')])[i]? = N[i]? := fun i hi hn => by
    rw [List.getElem?_append_left (by simp; omega), List.getElem?_set_ne (Ne.symm hn)]
  refine ⟨?_, by rw [key _ hd (Ne.symm h.ne)]; exact h.d, by rw [key _ (by omega) (by have := h.l2; omega)]; exact h.x, by rw [key _ (by have := h.d2; omega) (by have := h.l2; omega)]; exact h.z, by omega, by have := h.l2; omega, h.d2⟩
  rw [List.getElem?_append_right (by simp)]
  simp
theorem AH.push {N : Heap} {jl jd : Nat} {L : Tl} {D : List Int} {X Z : AObj} (h : AH N jl jd L D X Z) (M : Heap) : AH (N ++ M) jl jd L D X Z :=
  ⟨hApp h.l M, hApp h.d M, hApp h.x M, hApp h.z M, h.ne, h.l2, h.d2⟩
theorem AH.set {N : Heap} {jl jd : Nat} {L : Tl} {D : List Int} {X Z : AObj} (h : AH N jl jd L D X Z) (L' : Tl) : AH (N.set jl (.rw (lC L'))) jl jd L' D X Z := by
  have hl := (List.getElem?_eq_some_iff.1 h.l).1
  refine ⟨List.getElem?_set_self hl, by rw [List.getElem?_set_ne h.ne]; exact h.d, by rw [List.getElem?_set_ne (by have := h.l2; omega)]; exact h.x, by rw [List.getElem?_set_ne (by have := h.l2; omega)]; exact h.z, h.ne, h.l2, h.d2⟩
/-- The least slot of the first i, the first of these. -/
def BstP (L : Tl) (t i : Nat) : Option Nat → Prop
  | none => ∀ q y, q < i → L[q]? = some y → ((t : Nat) : Int) < y.1.1
  | some b => b < i ∧ ∃ x, L[b]? = some x ∧ x.1.1 ≤ (t : Nat) ∧ ∀ q y, q < i → L[q]? = some y → y.1.1 ≤ (t : Nat) → x.1.1 < y.1.1 ∨ (x.1.1 = y.1.1 ∧ b ≤ q)
def bstV : Option Nat → Int
  | none => -1
  | some b => (b : Nat)
structure RaP (L0 : Tl) (t : Nat) (L : Tl) (dl : List Th) : Prop where
  perm : (dl ++ L.map (·.1)).Perm (L0.map (·.1))
  sub : L.Sublist L0
  sorted : Sorted dl
  cross : ∀ x ∈ dl, ∀ y ∈ L, y.1.1 ≤ (t : Nat) → klt (ekey x) (ekey y.1)
  done : ∀ x ∈ dl, x.1 ≤ (t : Nat)
theorem RaP.init (L : Tl) (t : Nat) : RaP L t L [] := ⟨.refl _, List.Sublist.refl _, .nil, by simp, by simp⟩
theorem RaP.step {L0 L : Tl} {t b : Nat} {dl : List Th} (h : RaP L0 t L dl) (hs : L0.Pairwise fun x y => x.1.2.1 < y.1.2.1) {x : Th × Nat} (hx : L[b]? = some x) (hb : BstP L t L.length (some b)) : RaP L0 t (L.eraseIdx b) (dl ++ [x.1]) := by
  obtain ⟨hbl, x', hx', hxt, hmin⟩ := hb
  rw [hx] at hx'
  obtain rfl : x = x' := by simpa using hx'
  obtain ⟨hl, e⟩ := List.getElem?_eq_some_iff.1 hx
  have hxm := List.mem_of_getElem? hx
  refine ⟨?_, (List.eraseIdx_sublist _ _).trans h.sub, ?_, fun z hz y hy hyt => ?_, fun z hz => ?_⟩
  · refine List.Perm.trans ?_ h.perm
    have hp : (x :: L.eraseIdx b).Perm L := by
      have e3 : L = L.take b ++ x :: L.drop (b + 1) := by rw [← e, ← List.drop_eq_getElem_cons hl, List.take_append_drop]
      rw [List.eraseIdx_eq_take_drop_succ]
      refine List.Perm.trans List.perm_middle.symm ?_
      rw [← e3]
    have hp := hp.map (·.1)
    rw [List.map_cons] at hp
    rw [List.append_assoc]
    exact List.Perm.append_left _ hp
  · refine List.pairwise_append.2 ⟨h.sorted, List.pairwise_singleton _ _, fun a ha c hc => ?_⟩
    simp only [List.mem_singleton] at hc
    subst hc
    exact h.cross a ha x hxm hxt
  · obtain ⟨q, hq, hqy⟩ := List.mem_eraseIdx_iff_getElem?.1 hy
    have hyL := List.mem_of_getElem? hqy
    rcases List.mem_append.1 hz with hz | hz
    · exact h.cross z hz y hyL hyt
    · simp only [List.mem_singleton] at hz
      subst hz
      obtain ⟨hql, e2⟩ := List.getElem?_eq_some_iff.1 hqy
      rcases hmin q y hql hqy hyt with g | ⟨g, gb⟩
      · exact .inl g
      · right
        have hs2 := List.Pairwise.sublist h.sub hs
        have := List.pairwise_iff_getElem.1 hs2 b q hl hql (by omega)
        rw [e, e2] at this
        exact ⟨g, this⟩
  · rcases List.mem_append.1 hz with hz | hz
    · exact h.done z hz
    · simp only [List.mem_singleton] at hz
      subst hz; exact hxt
/-- What stands not further than the cursor stands anew. -/
def rup (S t : Nat) (y : Th × Nat) : Th × Nat := if y.2 ≤ t then (y.1, stC S t y.1.1) else y
theorem lC_set : ∀ (L : Tl) (q : Nat) (y : Th × Nat) (a : Nat), L[q]? = some y → (lC L).set (q * 3 + 2) (.i .u64 (a : Nat)) = lC (L.set q (y.1, a))
  | [], q, y, a, h => by simp at h
  | x :: L, 0, y, a, h => by
    simp at h
    subst h
    rfl
  | x :: L, q + 1, y, a, h => by
    have := lC_set L q y a (by simpa using h)
    rw [show (q + 1) * 3 + 2 = (q * 3 + 2) + 3 by omega]
    show Val.i .u64 x.1.2.2 :: Val.i .u64 x.1.1 :: Val.i .u64 (x.2 : Nat) :: (lC L).set (q * 3 + 2) _ = _
    rw [this]; rfl
theorem rup_set (S t : Nat) (L : Tl) (q : Nat) (y : Th × Nat) (h : L[q]? = some y) : ((L.take q).map (rup S t) ++ L.drop q).set q (rup S t y) = (L.take (q + 1)).map (rup S t) ++ L.drop (q + 1) := by
  obtain ⟨hl, e⟩ := List.getElem?_eq_some_iff.1 h
  have hlen : ((L.take q).map (rup S t)).length = q := by simp; omega
  rw [List.set_append_right _ _ (by omega), hlen, Nat.sub_self, List.drop_eq_getElem_cons hl, List.set_cons_zero, List.take_add_one, h]
  simp
theorem rup_get (S t : Nat) (L : Tl) (q : Nat) (y : Th × Nat) (h : L[q]? = some y) : ((L.take q).map (rup S t) ++ L.drop q)[q]? = some y := by
  obtain ⟨hl, e⟩ := List.getElem?_eq_some_iff.1 h
  have hlen : ((L.take q).map (rup S t)).length = q := by simp; omega
  rw [List.getElem?_append_right (by omega), hlen, Nat.sub_self, List.getElem?_drop]
  exact h
end Go.Proofs.YtmdilnelogechaaDoor.IR
