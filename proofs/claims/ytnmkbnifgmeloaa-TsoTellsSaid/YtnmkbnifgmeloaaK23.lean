/- This text of a proof shows: what the functions of a train come to, whether they tell pieces or none. -/
import Derived.Test.YtnmkbnifgmeloaaI23
import Derived.Test.YtnmkbnifgmeloaaH23
set_option linter.unusedVariables false
set_option linter.unusedSimpArgs false
set_option linter.constructorNameAsVariable false
namespace Go.Proofs.Ytnmkbnifgmeloaa.IR
open Go Go.Proofs.Ytnmkbnifgmeloaa.Ev Go.Proofs.Ytnmkbnifgmeloaa.Ext Go.Proofs.YtnmkbnifgmeloaaW.PrintWords
set_option linter.unusedSimpArgs false
set_option linter.unusedVariables false
set_option maxHeartbeats 4000000
attribute [local go_sem] skipV nc0 nc1 nc2 nc3 bne_self_eq_false decide_true decide_false IOp.step Opd.ev Env.get initEnv Val.cells? Val.one List.all_cons List.all_nil Bool.and_true Bool.and_self Bool.true_and bin ints eqv Val.kindNo lenNo_s lenNo_nils lenNo_sl lenNo_nilm lenNo_m lenOf_s lenOf_nils lenOf_sl lenOf_nilm unary partsOf padTo List.foldl_cons List.foldl_nil wr_nil wr_step wr_zero List.set_cons_zero List.set_cons_succ List.map_cons List.map_nil z1 z2 Nat.succ_ne_zero List.length_cons List.length_nil List.cons_append List.nil_append List.append_nil List.getElem?_cons_zero List.getElem?_cons_succ List.getElem?_nil Option.map_some Option.map_none Nat.zero_add Nat.add_zero List.drop_zero List.drop_succ_cons List.take_succ_cons List.take_zero List.take_nil and_self and_true true_and Nat.le_refl Bool.not_true Bool.not_false Option.getD_some window Val.slen bnd resV resL RV.val Bool.false_eq_true BEq.rfl Bool.true_beq Bool.false_beq beq_true beq_false mk_one ite_true ite_false eqc ceqs ceq NOp.step isK eq_self
attribute [-go_sem] ceqs ceq
def oVal (k : Nat) (o : Option (List Pk)) : Val := match o with | some l => .sl k 0 l.length 5 | none => .nils
def oObj (o : Option (List Pk)) : AObj := match o with | some l => .rw (l.flatMap ev5) | none => .dead
def oE (o : Option (List Pk)) : Int := if o.isSome then 0 else 2
theorem oVal_ren (ι : Nat → Nat) (k : Nat) (o : Option (List Pk)) : (oVal k o).ren ι = oVal (ι k) o := by cases o <;> rfl
theorem oVal_wf (m k : Nat) (o : Option (List Pk)) (h : k < m) : (oVal k o).wf m = true := by cases o <;> simp [oVal, Val.wf, h]
theorem oObj_ren (ι : Nat → Nat) (o : Option (List Pk)) : (oObj o).ren ι = oObj o := by cases o <;> simp [oObj, rn_rw, rn_dead, ev5_ren]
theorem oObj_wf (m : Nat) (o : Option (List Pk)) : (oObj o).wf m = true := by cases o <;> simp [oObj, wn_rw, wn_dead, ev5_wf]
def co (p : Pk) (z : Int) : Option (List Pk) := if okC p z then some (pcs p z) else none
theorem cut_u (p : Pk) (z : Int) : SoundM Try.prog 0 13 [.agg (ev5 p), .i .i64 z] [] (fun v H' => v = .tup [oVal 0 (co p z), .i .i64 (oE (co p z))] ∧ H' = [oObj (co p z)]) := by
  unfold co
  by_cases h : okC p z
  · rw [if_pos h]; exact cut_y p z h
  · rw [if_neg h]
    exact SoundM.more (cut_n p z h []) fun v H' q => by obtain ⟨rfl, rfl⟩ := q; exact ⟨rfl, rfl⟩
theorem rcut_u (p : Pk) (z : Int) : SoundM Try.prog 0 14 [.agg (ev5 p), .i .i64 z] [] (fun v H' => v = .tup [oVal 0 (co p z), .b (co p z).isSome] ∧ H' = [oObj (co p z)]) := by
  unfold co
  by_cases h : okC p z
  · rw [if_pos h]; exact rcut_y p z h
  · rw [if_neg h]
    exact SoundM.more (rcut_n p z h []) fun v H' q => by obtain ⟨rfl, rfl⟩ := q; exact ⟨rfl, rfl⟩
def tro (p : Pk) (rate m k : Int) : Option (List Pk) := if okS m k ∧ okC p 1 then some (pcs p (sg rate m k * m)) else none
theorem trains_u (p : Pk) (rate m k : Int) (hu : U rate) : SoundM Try.prog 0 16 [.agg (ev5 p), .i .u64 rate, .i .i64 m, .i .i64 k] [] (fun v H' => v = .tup [oVal 0 (tro p rate m k), .i .i64 (oE (tro p rate m k))] ∧ H' = [oObj (tro p rate m k)]) := by
  unfold tro
  by_cases h : okS m k ∧ okC p 1
  · rw [if_pos h]; exact trains_y p rate m k hu h.1 h.2
  · rw [if_neg h]
    exact SoundM.more (trains_n p rate m k hu h []) fun v H' q => by obtain ⟨rfl, rfl⟩ := q; exact ⟨rfl, rfl⟩
theorem rtrains_u (p : Pk) (rate m k : Int) (hu : U rate) : SoundM Try.prog 0 17 [.agg (ev5 p), .i .u64 rate, .i .i64 m, .i .i64 k] [] (fun v H' => v = .tup [oVal 0 (tro p rate m k), .b (tro p rate m k).isSome] ∧ H' = [oObj (tro p rate m k)]) := by
  unfold tro
  by_cases h : okS m k ∧ okC p 1
  · rw [if_pos h]; exact rtrains_y p rate m k hu h.1 h.2
  · rw [if_neg h]
    exact SoundM.more (rtrains_n p rate m k hu h []) fun v H' q => by obtain ⟨rfl, rfl⟩ := q; exact ⟨rfl, rfl⟩
theorem same_u (o : Option (List Pk)) (h : (o.getD []).length ≤ 65536) : SoundM Try.prog 2 15 [oVal 0 o, oVal 1 o] [oObj o, oObj o] (fun v H' => v = .b true ∧ H' = [oObj o, oObj o]) := by
  cases o with
  | none => exact same_nil [.dead, .dead]
  | some l => simpa [oVal, oObj] using same_c l l h
theorem join_u (o : Option (List Pk)) (z : Int) (h : ∀ l, o = some l → l ≠ []) : SoundM Try.prog 1 18 [oVal 0 o, .i .i64 z] [oObj o] (fun v H' => v = jv (jn (o.getD []) z) ∧ H' = [oObj o]) := by
  cases o with
  | none => exact join_nil z [.dead]
  | some l => exact join_rw l z (h l rfl)
theorem rjoin_u (o : Option (List Pk)) (z : Int) (h : (o.getD []).length ≤ 65536) : SoundM Try.prog 1 19 [oVal 0 o, .i .i64 z] [oObj o] (fun v H' => v = rjv (jn (o.getD []) z) ∧ H' = [oObj o]) := by
  cases o with
  | none => exact rjoin_nil z [.dead]
  | some l => exact rjoin_rw l z h
theorem co_len (p : Pk) (z : Int) : ((co p z).getD []).length ≤ 65536 := by
  unfold co; split
  · rename_i h; exact pcs_len p h.2.2 h.2.1
  · simp
theorem tro_len (p : Pk) (rate m k : Int) : ((tro p rate m k).getD []).length ≤ 65536 := by
  unfold tro; split
  · rename_i h
    have := sg_mul (rate := rate) h.1
    exact pcs_len p (by omega) h.2.2.1
  · simp
theorem pcs_ne (p : Pk) {z : Int} (hz : 1 ≤ z) (h : 1 ≤ p.2.2.1) : pcs p z ≠ [] := by
  unfold pcs
  rw [lens_pos hz (by omega)]; simp
theorem co_ne (p : Pk) (z : Int) : ∀ l, co p z = some l → l ≠ [] := by
  intro l hl
  unfold co at hl; split at hl
  · rename_i h; cases hl; exact pcs_ne p h.2.2 h.1
  · cases hl
theorem tro_ne (p : Pk) (rate m k : Int) : ∀ l, tro p rate m k = some l → l ≠ [] := by
  intro l hl
  unfold tro at hl; split at hl
  · rename_i h; cases hl
    have := sg_mul (rate := rate) h.1
    exact pcs_ne p (by omega) h.2.1
  · cases hl
end Go.Proofs.Ytnmkbnifgmeloaa.IR
