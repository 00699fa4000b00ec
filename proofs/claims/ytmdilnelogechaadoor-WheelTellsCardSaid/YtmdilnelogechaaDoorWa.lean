/- This text of a proof shows: a wheel's objects, and what its small functions come to; what putting a thing into its slot comes to, Put, Take, and what a wheel tells of itself. -/
import Derived.Test.YtmdilnelogechaaDoorGg
import Derived.Test.YtmdilnelogechaaDoorS09
import Derived.Test.YtmdilnelogechaaDoorUg
import Derived.Test.YtmdilnelogechaaDoorGh
import Derived.Test.YtmdilnelogechaaDoorKl
import Derived.Test.YtmdilnelogechaaDoorGk
set_option linter.unusedVariables false
set_option linter.unusedSimpArgs false
set_option linter.constructorNameAsVariable false
namespace Go.Proofs.YtmdilnelogechaaDoor.IR
open Go Go.Proofs.YtmdilnelogechaaDoor.Ev Go.Proofs.YtmdilnelogechaaDoor.Ev.Rb Go.Proofs.YtmdilnelogechaaDoor.Ext Go.Proofs.YtmdilnelogechaaDoorW.PrintWords
set_option linter.unusedSimpArgs false
set_option linter.unusedVariables false
set_option maxHeartbeats 4000000
attribute [local go_sem] skipV nc0 nc1 nc2 nc3 bne_self_eq_false decide_true decide_false IOp.step Opd.ev Env.get initEnv Val.cells? Val.one List.all_cons List.all_nil Bool.and_true Bool.and_self Bool.true_and bin ints eqv Val.kindNo lenNo_s lenNo_nils lenNo_sl lenNo_nilm lenNo_m lenOf_s lenOf_nils lenOf_sl lenOf_nilm unary partsOf padTo List.foldl_cons List.foldl_nil wr_nil wr_step wr_zero List.set_cons_zero List.set_cons_succ List.map_cons List.map_nil z1 z2 Nat.succ_ne_zero List.length_cons List.length_nil List.cons_append List.nil_append List.append_nil List.getElem?_cons_zero List.getElem?_cons_succ List.getElem?_nil Option.map_some Option.map_none Nat.zero_add Nat.add_zero List.drop_zero List.drop_succ_cons List.take_succ_cons List.take_zero List.take_nil and_self and_true true_and Nat.le_refl Bool.not_true Bool.not_false Option.getD_some window Val.slen bnd resV resL RV.val Bool.false_eq_true BEq.rfl Bool.true_beq Bool.false_beq beq_true beq_false mk_one ite_true ite_false eqc ceqs ceq NOp.step isK eq_self
attribute [local go_sem] nat_toNat
def MX : Nat := 18446744073709551615
def satN (x : Nat) : Nat := min x 18446744073709551615
theorem add_ok (a b : Nat) (ha : a ≤ 18446744073709551615) (hb : b ≤ 18446744073709551615) (H : Heap) : SoundCall Tryd.prog 40 [.i .u64 a, .i .u64 b] H (fun v H' => v = .i .u64 (satN (a + b) : Nat) ∧ H' = H) := by
  refine (ext_ok 40 [.i .u64 a, .i .u64 b] (.i .u64 (sat ((a : Int) + b))) (by simp [ext, show U (a : Int) from ⟨by omega, by omega⟩, show U (b : Int) from ⟨by omega, by omega⟩]) H).mono ?_
  rintro v H' ⟨rfl, rfl⟩
  refine ⟨?_, rfl⟩
  have : sat ((a : Int) + b) = (satN (a + b) : Nat) := by unfold sat satN; split <;> omega
  rw [this]
theorem mul_ok (a b : Nat) (ha : a ≤ 18446744073709551615) (hb : b ≤ 18446744073709551615) (H : Heap) : SoundCall Tryd.prog 41 [.i .u64 a, .i .u64 b] H (fun v H' => v = .i .u64 (satN (a * b) : Nat) ∧ H' = H) := by
  refine (ext_ok 41 [.i .u64 a, .i .u64 b] (.i .u64 (sat ((a : Int) * b))) (by simp [ext, show U (a : Int) from ⟨by omega, by omega⟩, show U (b : Int) from ⟨by omega, by omega⟩]) H).mono ?_
  rintro v H' ⟨rfl, rfl⟩
  refine ⟨?_, rfl⟩
  have e : (a : Int) * b = ((a * b : Nat) : Int) := by simp
  have : sat ((a : Int) * b) = (satN (a * b) : Nat) := by rw [e]; generalize a * b = x; unfold sat satN; split <;> omega
  rw [this]
/-- A slot's number: the instant by the width, rounded up. -/
def slotN (t w : Nat) : Nat := (t + (w - 1)) / w
theorem slotN_le (t w : Nat) (h : 1 ≤ w) : slotN t w ≤ t := by
  unfold slotN
  rcases Nat.eq_zero_or_pos t with rfl | ht
  · rw [Nat.zero_add, Nat.div_eq_of_lt (by omega)]; exact Nat.le_refl _
  · have h1 : t + (w - 1) ≤ w * t := by
      obtain ⟨k, rfl⟩ : ∃ k, w = k + 1 := ⟨w - 1, by omega⟩
      obtain ⟨q, rfl⟩ : ∃ q, t = q + 1 := ⟨t - 1, by omega⟩
      have : (k + 1) * (q + 1) = k * q + k + (q + 1) := by rw [Nat.succ_mul, Nat.mul_succ]
      omega
    calc (t + (w - 1)) / w ≤ (w * t) / w := Nat.div_le_div_right h1
      _ = t := Nat.mul_div_cancel_left _ h
theorem up_ok (a c : Nat) (ha : a ≤ 18446744073709551615) (hc1 : 1 ≤ c) (hc : c ≤ 18446744073709551615) (H : Heap) : SoundCall Tryd.prog 37 [.i .u64 a, .i .u64 1, .i .u64 c] H (fun v H' => v = .i .u64 (slotN a c : Nat) ∧ H' = H) := by
  refine (ext_ok 37 [.i .u64 a, .i .u64 1, .i .u64 c] (.i .u64 (if (c : Int) = 0 then 18446744073709551615 else sat (((a : Int) * 1 + ((c : Int) - 1)) / c))) (by simp only [ext]; rw [if_pos ⟨trivial, (⟨by omega, by omega⟩ : U (a : Int)), (⟨by omega, by omega⟩ : U 1), (⟨by omega, by omega⟩ : U (c : Int))⟩]) H).mono ?_
  rintro v H' ⟨rfl, rfl⟩
  refine ⟨?_, rfl⟩
  rw [if_neg (by omega)]
  have e : ((a : Int) * 1 + ((c : Int) - 1)) / c = (slotN a c : Nat) := by
    unfold slotN
    rw [show (a : Int) * 1 + ((c : Int) - 1) = ((a + (c - 1) : Nat) : Int) by omega]
    rfl
  rw [e]
  have := slotN_le a c hc1
  have e2 : sat ((slotN a c : Nat) : Int) = (slotN a c : Nat) := by unfold sat; rw [if_pos (by omega)]
  rw [e2]
theorem mx1 (w : Nat) (h : 1 ≤ w) : mxs false (.i .u64 (w : Nat)) [.i .u64 1] = some (.i .u64 (w : Nat)) := mx_hi (by omega)
theorem slot_ok (t w : Nat) (ht : t ≤ 18446744073709551615) (hw1 : 1 ≤ w) (hw : w ≤ 18446744073709551615) (H : Heap) : SoundCall Tryd.prog 13 [.i .u64 t, .i .u64 w] H (fun v H' => v = .i .u64 (slotN t w : Nat) ∧ H' = H) := by
  refine (sound_func Tryd.func13 c13 rfl (Nat.le_refl _) ?_)
  simp only [e13, s13]
  (have g0 := mx1 w hw1; refine GG1 ?_; clear g0)
  (first | ((with_reducible first | apply RunP.call | apply Run.call | apply Run.call0); iterate 2 (· (simp only [go_sem, reduceIte, Nat.reduceEqDiff]; (try with_reducible exact rfl)))) | ((with_reducible first | apply Run.callY | apply RunP.callY); iterate 3 (· (simp only [go_sem, reduceIte, Nat.reduceEqDiff]; (try with_reducible exact rfl)))))
  refine (up_ok t w ht hw1 hw _).mono ?_
  rintro v H' ⟨rfl, rfl⟩
  refine GG0 ?_
  exact ⟨rfl, rfl⟩
theorem begin_ok (s w : Nat) (hs : s ≤ 18446744073709551615) (hw1 : 1 ≤ w) (hw : w ≤ 18446744073709551615) (H : Heap) : SoundCall Tryd.prog 18 [.i .u64 s, .i .u64 w] H (fun v H' => v = .i .u64 (satN (s * w) : Nat) ∧ H' = H) := by
  refine (sound_func Tryd.func18 c18 rfl (Nat.le_refl _) ?_)
  simp only [e18, s18]
  (have g0 := mx1 w hw1; refine GG1 ?_; clear g0)
  (first | ((with_reducible first | apply RunP.call | apply Run.call | apply Run.call0); iterate 2 (· (simp only [go_sem, reduceIte, Nat.reduceEqDiff]; (try with_reducible exact rfl)))) | ((with_reducible first | apply Run.callY | apply RunP.callY); iterate 3 (· (simp only [go_sem, reduceIte, Nat.reduceEqDiff]; (try with_reducible exact rfl)))))
  refine (mul_ok s w hs hw _).mono ?_
  rintro v H' ⟨rfl, rfl⟩
  refine GG0 ?_
  exact ⟨rfl, rfl⟩
/-- The wheel's own cells: how many slots; what stands behind the slots and the marks. -/
def wC (S w c : Nat) (dv : Val) (room wt put : Nat) : List Val := [.sl 1 0 S 1, .p 2 0, .i .u64 (w : Nat), .i .u64 (c : Nat), dv, .i .i64 (room : Nat), .i .i64 (wt : Nat), .i .i64 (put : Nat)]
theorem wnone (S w c : Nat) (dv : Val) (room wt put : Nat) (R : Heap) : SoundCall Tryd.prog 29 [.p 0 0] (.rw (wC S w c dv room wt put) :: R) (fun v H' => v = .b false ∧ H' = .rw (wC S w c dv room wt put) :: R) := by
  refine (sound_func Tryd.func29 c29 rfl (Nat.le_refl _) ?_)
  simp only [e29, s29, wC]
  refine GG0 ?_
  exact ⟨rfl, rfl⟩
theorem tmodN (x : Int) (S : Nat) (hx : 0 ≤ x) (hS : 1 ≤ S) : x.tmod ((S : Nat) : Int) = ((x.toNat % S : Nat) : Int) := by
  obtain ⟨n, rfl⟩ : ∃ n : Nat, x = n := ⟨x.toNat, by omega⟩
  rw [Int.ofNat_tmod]; rfl
theorem wplace (S w c : Nat) (dv : Val) (room wt put : Nat) (R : Heap) (x : Int) (hS1 : 1 ≤ S) (hS : S ≤ 4096) (hx0 : 0 ≤ x) (hx1 : x ≤ 18446744073709551615) :
    SoundCall Tryd.prog 38 [.p 0 0, .i .u64 x] (.rw (wC S w c dv room wt put) :: R) (fun v H' => v = .i .i64 (x.toNat % S : Nat) ∧ H' = .rw (wC S w c dv room wt put) :: R) := by
  refine (sound_func Tryd.func38 c38 rfl (Nat.le_refl _) ?_)
  simp only [e38, s38, wC]
  have hm := tmodN x S hx0 hS1
  have hlt : x.toNat % S < S := Nat.mod_lt _ hS1
  (have g0 := hm; refine GG1 ?_; clear g0)
  exact ⟨rfl, rfl⟩
theorem wlast (S w c : Nat) (dv : Val) (room wt put : Nat) (R : Heap) (hS1 : 1 ≤ S) (hS : S ≤ 4096) (hc : c ≤ 18446744073709551615) :
    SoundCall Tryd.prog 46 [.p 0 0] (.rw (wC S w c dv room wt put) :: R) (fun v H' => v = .i .u64 (satN (c + (S - 1)) : Nat) ∧ H' = .rw (wC S w c dv room wt put) :: R) := by
  refine (sound_func Tryd.func46 c46 rfl (Nat.le_refl _) ?_)
  simp only [e46, s46, wC]
  have hs : ((S : Nat) : Int) - 1 = ((S - 1 : Nat) : Int) := by omega
  (have g0 := hs; refine GG1 ?_; clear g0)
  (first | ((with_reducible first | apply RunP.call | apply Run.call | apply Run.call0); iterate 2 (· (simp only [go_sem, reduceIte, Nat.reduceEqDiff]; (try with_reducible exact rfl)))) | ((with_reducible first | apply Run.callY | apply RunP.callY); iterate 3 (· (simp only [go_sem, reduceIte, Nat.reduceEqDiff]; (try with_reducible exact rfl)))))
  refine (add_ok c (S - 1) hc (by omega) _).mono ?_
  rintro v H' ⟨rfl, rfl⟩
  (first | refine And.intro rfl ?_ | refine And.intro trivial ?_ | skip)
  refine GG0 ?_
  exact ⟨rfl, rfl⟩
end Go.Proofs.YtmdilnelogechaaDoor.IR
namespace Go.Proofs.YtmdilnelogechaaDoor.IR
open Go Go.Proofs.YtmdilnelogechaaDoor.Ev Go.Proofs.YtmdilnelogechaaDoor.Ev.Rb Go.Proofs.YtmdilnelogechaaDoor.Ev.Wh Go.Proofs.YtmdilnelogechaaDoor.Ext Go.Proofs.YtmdilnelogechaaDoorW.PrintWords
set_option linter.unusedSimpArgs false
set_option linter.unusedVariables false
set_option maxHeartbeats 4000000
attribute [local go_sem] skipV nc0 nc1 nc2 nc3 bne_self_eq_false decide_true decide_false IOp.step Opd.ev Env.get initEnv Val.cells? Val.one List.all_cons List.all_nil Bool.and_true Bool.and_self Bool.true_and bin ints eqv Val.kindNo lenNo_s lenNo_nils lenNo_sl lenNo_nilm lenNo_m lenOf_s lenOf_nils lenOf_sl lenOf_nilm unary partsOf padTo List.foldl_cons List.foldl_nil wr_nil wr_step wr_zero List.set_cons_zero List.set_cons_succ List.map_cons List.map_nil z1 z2 Nat.succ_ne_zero List.length_cons List.length_nil List.cons_append List.nil_append List.append_nil List.getElem?_cons_zero List.getElem?_cons_succ List.getElem?_nil Option.map_some Option.map_none Nat.zero_add Nat.add_zero List.drop_zero List.drop_succ_cons List.take_succ_cons List.take_zero List.take_nil and_self and_true true_and Nat.le_refl Bool.not_true Bool.not_false Option.getD_some window Val.slen bnd resV resL RV.val Bool.false_eq_true BEq.rfl Bool.true_beq Bool.false_beq beq_true beq_false mk_one ite_true ite_false eqc ceqs ceq NOp.step isK eq_self
theorem mxM {k k' : IntKind} {x y : Int} : mxs false (.i k x) [.i k' y] = some (.i k (max x y)) := by
  rcases Int.le_total x y with h | h
  · rw [mx_lo h, Int.max_eq_right h]
  · rw [mx_hi h, Int.max_eq_left h]
theorem mnM {k k' : IntKind} {x y : Int} : mxs true (.i k x) [.i k' y] = some (.i k (min x y)) := by
  rcases Int.le_total x y with h | h
  · rw [mn_lo h, Int.min_eq_left h]
  · rw [mn_hi h, Int.min_eq_right h]
section
variable {a b c d e f g : AObj} {D : Heap}
theorem len7 : (a :: b :: c :: d :: e :: f :: g :: D).length = D.length + 7 := rfl
theorem get7 (j : Nat) : (a :: b :: c :: d :: e :: f :: g :: D)[j + 7]? = D[j]? := rfl
theorem set7 (j : Nat) (x : AObj) : (a :: b :: c :: d :: e :: f :: g :: D).set (j + 7) x = a :: b :: c :: d :: e :: f :: g :: D.set j x := rfl
end
theorem getC {D : Heap} {o : AObj} : (D ++ [o])[D.length]? = some o := List.getElem?_concat_length
theorem getC2 {D : Heap} {o q : AObj} : ((D ++ [o]) ++ [q])[D.length]? = some o := by rw [List.getElem?_append_left (by simp), getC]
theorem setC {D : Heap} {o q : AObj} : (D ++ [o]).set D.length q = D ++ [q] := by simp
theorem getP {D : Heap} {o q : AObj} {j : Nat} (h : D[j]? = some q) : (D ++ [o])[j]? = some q := by rw [List.getElem?_append_left (get_lt h)]; exact h
theorem wr1 (c : List Val) (o : Nat) (v : Val) : wr c o [v] = c.set o v := rfl
attribute [local go_sem] nat_toNat mxM mnM wC getC getC2 setC wr1 Nat.mul_one
attribute [local go_sem high] len7 get7 set7
/-- One is appended to nothing. -/
theorem appNil {e : Opd → Val} {H : Heap} {x y : Opd} {new : List Val} {sz bytes j : Nat} (hx : e x = .nils) (hy : e y = .sl j 0 1 sz) (hj : H[j]? = some (.rw new)) (hl : new.length = sz) (hb : bytes ≤ 140737488355328) :
    (IOp.app sz bytes x y).step e H = some (.sl H.length 0 1 sz, H ++ [.rw new]) := by
  have hw : window H (.sl j 0 1 sz) sz = some new := by
    simp only [window, if_true, hj]
    rw [if_pos (by omega), List.drop_zero, Nat.one_mul, List.take_of_length_le (by omega)]
  have hw0 : window H .nils sz = some [] := rfl
  simp only [IOp.step, hx, hy, hw, hw0, Val.slen]
  rw [if_pos (by omega)]
  simp
theorem appOne {e : Opd → Val} {H : Heap} {x y : Opd} {a c new : List Val} {id n sz bytes j : Nat} (hx : e x = .sl id a.length n sz) (hH : H[id]? = some (.rw (a ++ c))) (hc : c.length = n * sz)
    (hy : e y = .sl j 0 1 sz) (hj : H[j]? = some (.rw new)) (hl : new.length = sz) (hb : (n + 1) * bytes ≤ 140737488355328) :
    (IOp.app sz bytes x y).step e H = some (.sl H.length 0 (n + 1) sz, H.set id .dead ++ [.rw (c ++ new)]) := by
  have := gApp (e := e) (H := H) (x := x) (y := y) (o := some (a, [])) (c := c) (new := new) (id := id) (n := n) (sz := sz) (bytes := bytes) (j := j) hx (by rw [hH]; simp [gO]) hc (fun h => by cases h) hy hj hl hb
  rw [this]
  simp [gV, gO, gNew]
structure WOk (s : Ws) : Prop where
  S2 : 2 ≤ s.S
  S4 : s.S ≤ 4096
  w1 : 1 ≤ s.w
  w2 : s.w ≤ 1099511627776
  c : s.c ≤ 18446744073709551615
  room : s.room ≤ 65536
  wt : s.wt ≤ 65536
  due : s.due.length ≤ 65536
  put : s.put ≤ 4611686018427387904
def WHb (s : Ws) (b : BB) (dv : Val) (cells : List Val) (D : Heap) : Heap :=
  .rw (wC s.S s.w s.c dv s.room s.wt s.put) :: .rw cells :: .rw (b.hd 3) :: .rw (b.fl 4 5 6) :: b.o2 :: b.o3 :: b.o4 :: D
/-- A wheel that stands as s tells, before all others. -/
def WH (s : Ws) (J : Jl) (H : Heap) : Prop :=
  ∃ (b : BB) (dv : Val) (cells : List Val) (D : Heap) (tag : Nat → Nat), H = WHb s b dv cells D ∧ WD s J dv cells D tag ∧ b.good s.S ∧ (∀ p, p < s.S → (b.p p = true ↔ s.sl p ≠ [])) ∧ WOk s
/-- Where a thing of a slot would stand. -/
def stN (s : Ws) (x : Int) : Nat := (min (max x s.c) (satN (s.c + (s.S - 1)) : Nat)).toNat
def stP (s : Ws) (x : Int) : Nat := stN s x % s.S
theorem WH.len {s : Ws} {J : Jl} {H : Heap} (h : WH s J H) : 7 ≤ H.length := by
  obtain ⟨b, dv, cells, D, tag, rfl, _⟩ := h
  simp [WHb]
theorem stand_c (s : Ws) (J : Jl) (H : Heap) (hH : WH s J H) (x : Th) (hx : 0 ≤ x.1 ∧ x.1 ≤ 18446744073709551615) (hl : (s.sl (stP s x.1)).length ≤ 1000000) :
    SoundCall Tryd.prog 30 [.p 0 0, .agg (enT x)] H (fun _ H' => WH (s.add (stP s x.1) x) J H') := by
  obtain ⟨b, dv, cells, D, tag, rfl, hD, hb, hm, hk⟩ := hH
  obtain ⟨k1, k2, k3, k4, k5, k6, k7, k8, k9⟩ := hk
  have hS1 : 1 ≤ s.S := by omega
  have hsat : satN (s.c + (s.S - 1)) ≤ 18446744073709551615 := by unfold satN; omega
  have hy0 : 0 ≤ min (max x.1 (s.c : Int)) ((satN (s.c + (s.S - 1)) : Nat) : Int) := by omega
  have hy1 : min (max x.1 (s.c : Int)) ((satN (s.c + (s.S - 1)) : Nat) : Int) ≤ 18446744073709551615 := by omega
  have hpS : stP s x.1 < s.S := Nat.mod_lt _ hS1
  refine (sound_func Tryd.func30 c30 rfl (Nat.le_refl _) ?_)
  simp only [e30, s30, WHb, enT]
  refine GG0 ?_
  (first | ((with_reducible first | apply RunP.call | apply Run.call | apply Run.call0); iterate 2 (· (simp only [go_sem, reduceIte, Nat.reduceEqDiff]; (try with_reducible exact rfl)))) | ((with_reducible first | apply Run.callY | apply RunP.callY); iterate 3 (· (simp only [go_sem, reduceIte, Nat.reduceEqDiff]; (try with_reducible exact rfl)))))
  refine (wlast s.S s.w s.c dv s.room s.wt s.put _ hS1 k2 k5).mono ?_
  rintro v H' ⟨rfl, rfl⟩
  (first | refine And.intro rfl ?_ | refine And.intro trivial ?_ | skip)
  refine GG0 ?_
  (first | ((with_reducible first | apply RunP.call | apply Run.call | apply Run.call0); iterate 2 (· (simp only [go_sem, reduceIte, Nat.reduceEqDiff]; (try with_reducible exact rfl)))) | ((with_reducible first | apply Run.callY | apply RunP.callY); iterate 3 (· (simp only [go_sem, reduceIte, Nat.reduceEqDiff]; (try with_reducible exact rfl)))))
  refine (wplace s.S s.w s.c dv s.room s.wt s.put _ _ hS1 k2 hy0 hy1).mono ?_
  rintro v H' ⟨rfl, rfl⟩
  (first | refine And.intro rfl ?_ | refine And.intro trivial ?_ | skip)
  have hpe : (min (max x.1 (s.c : Int)) ((satN (s.c + (s.S - 1)) : Nat) : Int)).toNat % s.S = stP s x.1 := rfl
  rw [hpe]
  generalize hpg : stP s x.1 = p at hpS hl
  clear hpe
  have hcl := hD.len
  have hw := (hD.push (o := .rw [.i .u64 x.2.2, .i .u64 x.1, .i .i64 x.2.1]) rfl).push (o := .rw [.i .u64 x.2.2, .i .u64 x.1, .i .i64 x.2.1]) rfl
  have hmk : ∀ q, q < s.S → ((upd b.p p true) q = true ↔ (s.add p x).sl q ≠ []) := fun q hq => by
    unfold upd Ws.add
    by_cases e : q = p
    · simp [e]
    · simp only [if_neg e]; exact hm q hq
  have hok : WOk (s.add p x) := ⟨k1, k2, k3, k4, k5, k6, k7, k8, k9⟩
  have fin : ∀ b' : BB, ((b.has (p : Nat) = false ∧ 0 ≤ ((p : Nat) : Int) ∧ ((p : Nat) : Int) < b.n ∧ b' = b.set ((p : Nat) : Int).toNat) ∨ ((b.has (p : Nat) = true ∨ ¬ (0 ≤ ((p : Nat) : Int) ∧ ((p : Nat) : Int) < b.n)) ∧ b' = b)) →
      b'.good s.S ∧ ∀ q, q < s.S → (b'.p q = true ↔ (s.add p x).sl q ≠ []) := by
    rintro b' (⟨h1, h2, h3, rfl⟩ | ⟨h1, rfl⟩)
    · exact ⟨good_set hb h1 h2 h3, fun q hq => hmk q hq⟩
    · refine ⟨hb, fun q hq => ?_⟩
      have hbn := hb.n
      have hp : b'.p p = true := by
        rcases h1 with h1 | h1
        · rwa [BB.has_p] at h1
        · omega
      rw [← hmk q hq]
      unfold upd
      by_cases e : q = p
      · simp [e, hp]
      · simp [e]
  rcases hD.cell p hpS with ⟨he, hc⟩ | ⟨j, hj, hc, hDj⟩
  · refine GN0 ?_
    refine ei_dregD ?_
    (have g0 := hc; refine GD1 ?_; clear g0)
    ((apply RunD.al); (· rfl); (· rfl); (· (simp only [go_sem, Int.reduceBEq, Int.reduceBNe, Int.reduceLT, Int.reduceLE, Int.reduceAdd, Int.reduceSub, Int.reduceToNat, reduceIte, Nat.reduceEqDiff, Nat.reduceAdd, Nat.reduceMul, Nat.reduceLeDiff, Nat.reduceSub, reduceCtorEq]; (try simp (disch := omega) only [OM, mn_lo, mn_hi, mx_lo, mx_hi, if_yes, if_no, Option.map_some]); (try with_reducible exact rfl))))
    refine RunD.app rfl rfl (appNil (j := (D ++ [AObj.rw [.i .u64 x.2.2, .i .u64 x.1, .i .i64 x.2.1]]).length + 7) (new := [.i .u64 x.2.2, .i .u64 x.1, .i .i64 x.2.1]) (by (simp only [go_sem, reduceIte, Nat.reduceEqDiff]; (try with_reducible exact rfl))) (by (simp only [go_sem, reduceIte, Nat.reduceEqDiff]; (try with_reducible exact rfl))) (by (simp only [go_sem, reduceIte, Nat.reduceEqDiff]; (try with_reducible exact rfl))) rfl (by omega)) ?_ ?_
    · exact GR0
    refine GD0 ?_
    ((apply RunD.st); (· rfl); (· rfl); (· (simp only [go_sem, Int.reduceBEq, Int.reduceBNe, Int.reduceLT, Int.reduceLE, Int.reduceAdd, Int.reduceSub, Int.reduceToNat, reduceIte, Nat.reduceEqDiff, Nat.reduceAdd, Nat.reduceMul, Nat.reduceLeDiff, Nat.reduceSub, reduceCtorEq]; (try simp (disch := omega) only [OM, mn_lo, mn_hi, mx_lo, mx_hi, if_yes, if_no, Option.map_some]); (try with_reducible exact rfl))))
    · exact GR0
    refine GD0 ?_
    refine GG0 ?_
    (first | ((with_reducible first | apply RunP.call | apply Run.call | apply Run.call0); iterate 2 (· (simp only [go_sem, reduceIte, Nat.reduceEqDiff]; (try with_reducible exact rfl)))) | ((with_reducible first | apply Run.callY | apply RunP.callY); iterate 3 (· (simp only [go_sem, reduceIte, Nat.reduceEqDiff]; (try with_reducible exact rfl)))))
    refine sound_use (setP b hb.ok (p : Nat)) [2, 3, 4, 5, 6] rfl (by decide) ?_ ?_ ?_ ?_ ?_; iterate 4 (· simp [-List.map_map, embAt, nm, rn_rw, rn_ro, rn_map, rn_iter, rn_dead, renL, Val.ren, wfAll, wn_rw, wn_ro, wn_map, wn_iter, wn_dead, wfL, Val.wf, Env.get, initEnv, BB.hd_ren, BB.fl_ren, BB.o2_ren, BB.o3_ren, BB.o4_ren, BB.hd_wf, BB.fl_wf, BB.o2_wf, BB.o3_wf, BB.o4_wf, BB.pad])
    rintro v C' ⟨b', _, _, _, rfl, hcase⟩
    simp only [merge, place, after, nm, MG, Val.ren, renL, rn_rw, rn_ro, rn_map, rn_iter, rn_dead, reduceIte, Nat.reduceLT, Nat.reduceAdd, Nat.reduceSub, Nat.lt_irrefl, Nat.zero_lt_one, Nat.zero_lt_succ, BB.hd_ren, BB.fl_ren, BB.o2_ren, BB.o3_ren, BB.o4_ren, BB.hd_wf, BB.fl_wf, BB.o2_wf, BB.o3_wf, BB.o4_wf, BB.pad]
    obtain ⟨f1, f2⟩ := fin b' (hcase.imp (fun h => ⟨h.1, h.2.1, h.2.2.1, h.2.2.2.2⟩) (fun h => ⟨h.1, h.2.2⟩))
    refine GG0 ?_
    have := hw.slot hpS x (.inl ⟨rfl, he⟩)
    rw [he] at this
    exact ⟨b', dv, _, _, _, rfl, this, f1, f2, hok⟩
  · have hDj2 := getP (o := .rw [.i .u64 x.2.2, .i .u64 x.1, .i .i64 x.2.1]) (getP (o := .rw [.i .u64 x.2.2, .i .u64 x.1, .i .i64 x.2.1]) hDj)
    refine GN0 ?_
    refine ei_dregD ?_
    (have g0 := hc; refine GD1 ?_; clear g0)
    ((apply RunD.al); (· rfl); (· rfl); (· (simp only [go_sem, Int.reduceBEq, Int.reduceBNe, Int.reduceLT, Int.reduceLE, Int.reduceAdd, Int.reduceSub, Int.reduceToNat, reduceIte, Nat.reduceEqDiff, Nat.reduceAdd, Nat.reduceMul, Nat.reduceLeDiff, Nat.reduceSub, reduceCtorEq]; (try simp (disch := omega) only [OM, mn_lo, mn_hi, mx_lo, mx_hi, if_yes, if_no, Option.map_some]); (try with_reducible exact rfl))))
    refine RunD.app rfl rfl (appOne (a := []) (id := j + 7) (c := thC (s.sl p)) (n := (s.sl p).length) (j := (D ++ [AObj.rw [.i .u64 x.2.2, .i .u64 x.1, .i .i64 x.2.1]]).length + 7) (new := [.i .u64 x.2.2, .i .u64 x.1, .i .i64 x.2.1]) (by (simp only [go_sem, reduceIte, Nat.reduceEqDiff]; (try with_reducible exact rfl))) (by (simp only [go_sem, reduceIte, Nat.reduceEqDiff, hDj2]; (try with_reducible exact rfl))) (thC_len _) (by (simp only [go_sem, reduceIte, Nat.reduceEqDiff]; (try with_reducible exact rfl))) (by (simp only [go_sem, reduceIte, Nat.reduceEqDiff]; (try with_reducible exact rfl))) rfl (by omega)) ?_ ?_
    · exact GR0
    refine GD0 ?_
    ((apply RunD.st); (· rfl); (· rfl); (· (simp only [go_sem, Int.reduceBEq, Int.reduceBNe, Int.reduceLT, Int.reduceLE, Int.reduceAdd, Int.reduceSub, Int.reduceToNat, reduceIte, Nat.reduceEqDiff, Nat.reduceAdd, Nat.reduceMul, Nat.reduceLeDiff, Nat.reduceSub, reduceCtorEq]; (try simp (disch := omega) only [OM, mn_lo, mn_hi, mx_lo, mx_hi, if_yes, if_no, Option.map_some]); (try with_reducible exact rfl))))
    · exact GR0
    refine GD0 ?_
    refine GG0 ?_
    (first | ((with_reducible first | apply RunP.call | apply Run.call | apply Run.call0); iterate 2 (· (simp only [go_sem, reduceIte, Nat.reduceEqDiff]; (try with_reducible exact rfl)))) | ((with_reducible first | apply Run.callY | apply RunP.callY); iterate 3 (· (simp only [go_sem, reduceIte, Nat.reduceEqDiff]; (try with_reducible exact rfl)))))
    refine sound_use (setP b hb.ok (p : Nat)) [2, 3, 4, 5, 6] rfl (by decide) ?_ ?_ ?_ ?_ ?_; iterate 4 (· simp [-List.map_map, embAt, nm, rn_rw, rn_ro, rn_map, rn_iter, rn_dead, renL, Val.ren, wfAll, wn_rw, wn_ro, wn_map, wn_iter, wn_dead, wfL, Val.wf, Env.get, initEnv, BB.hd_ren, BB.fl_ren, BB.o2_ren, BB.o3_ren, BB.o4_ren, BB.hd_wf, BB.fl_wf, BB.o2_wf, BB.o3_wf, BB.o4_wf, BB.pad])
    rintro v C' ⟨b', _, _, _, rfl, hcase⟩
    simp only [merge, place, after, nm, MG, Val.ren, renL, rn_rw, rn_ro, rn_map, rn_iter, rn_dead, reduceIte, Nat.reduceLT, Nat.reduceAdd, Nat.reduceSub, Nat.lt_irrefl, Nat.zero_lt_one, Nat.zero_lt_succ, BB.hd_ren, BB.fl_ren, BB.o2_ren, BB.o3_ren, BB.o4_ren, BB.hd_wf, BB.fl_wf, BB.o2_wf, BB.o3_wf, BB.o4_wf, BB.pad]
    obtain ⟨f1, f2⟩ := fin b' (hcase.imp (fun h => ⟨h.1, h.2.1, h.2.2.1, h.2.2.2.2⟩) (fun h => ⟨h.1, h.2.2⟩))
    refine GG0 ?_
    have hne : j ≠ D.length ∧ j ≠ (D ++ [AObj.rw [.i .u64 x.2.2, .i .u64 x.1, .i .i64 x.2.1]]).length := by
      have := get_lt hDj
      simp
      omega
    have := hw.slot hpS x (.inr ⟨j, by unfold tg; rw [if_neg hne.2, if_neg hne.1]; exact hj, hDj2, rfl⟩)
    rw [thC_app] at this
    exact ⟨b', dv, _, _, _, rfl, this, f1, f2, hok⟩
end Go.Proofs.YtmdilnelogechaaDoor.IR
