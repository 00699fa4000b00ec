/- This text of a proof shows: a row is stirred. -/
import Derived.Test.YtjahkgfihdngkaaGg
import Derived.Test.YtjahkgfihdngkaaSc
set_option linter.unusedVariables false
set_option linter.unusedSimpArgs false
set_option linter.constructorNameAsVariable false
namespace Go.Proofs.Ytjahkgfihdngkaa.IR
open Go Go.Proofs.Ytjahkgfihdngkaa.Ev Go.Proofs.Ytjahkgfihdngkaa.Ev.Rb Go.Proofs.Ytjahkgfihdngkaa.Ev.So
set_option linter.unusedSimpArgs false
set_option linter.unusedVariables false
set_option maxHeartbeats 4000000
attribute [local go_sem] skipV nc0 nc1 nc2 nc3 bne_self_eq_false decide_true decide_false IOp.step Opd.ev Env.get initEnv Val.cells? Val.one List.all_cons List.all_nil Bool.and_true Bool.and_self Bool.true_and bin ints eqv Val.kindNo lenNo_s lenNo_nils lenNo_sl lenNo_nilm lenNo_m lenOf_s lenOf_nils lenOf_sl lenOf_nilm unary partsOf padTo List.foldl_cons List.foldl_nil wr_nil wr_step wr_zero List.set_cons_zero List.set_cons_succ List.map_cons List.map_nil z1 z2 Nat.succ_ne_zero List.length_cons List.length_nil List.cons_append List.nil_append List.append_nil List.getElem?_cons_zero List.getElem?_cons_succ List.getElem?_nil Option.map_some Option.map_none Nat.zero_add Nat.add_zero List.drop_zero List.drop_succ_cons List.take_succ_cons List.take_zero List.take_nil and_self and_true true_and Nat.le_refl Bool.not_true Bool.not_false Option.getD_some window Val.slen bnd resV resL RV.val Bool.false_eq_true BEq.rfl Bool.true_beq Bool.false_beq beq_true beq_false mk_one ite_true ite_false eqc ceqs ceq NOp.step isK eq_self
attribute [local go_sem] nat_toNat en_all en3
def ft2 : FT := ftOf [(51, e51, k51), (62, e62, k62), (63, e63, k63), (65, e65, k65)]
theorem ft2_ok : FtOk Try.prog ft2 := ftOf_ok (by
  intro x hx
  simp only [List.mem_cons, List.not_mem_nil, or_false] at hx
  rcases hx with rfl | rfl | rfl | rfl
  · exact ⟨_, _, Try.func51, c51⟩
  · exact ⟨_, _, Try.func62, c62⟩
  · exact ⟨_, _, Try.func63, c63⟩
  · exact ⟨_, _, Try.func65, c65⟩)
def L2 : Nat → Nat → Nat
  | 0, _ => 0
  | k + 1, n => if n = 0 then 0 else L2 k (n / 2) + 1
def lenOk (n : Nat) : Bool := match (call ft2 ext 60 20 51 [.i .u64 (n : Nat)] []).map (·.1) with
  | some (Val.i IntKind.i64 m) => decide (m = (L2 8 n : Nat))
  | _ => false
def npOk (n : Nat) : Bool := match (call ft2 ext 60 20 65 [.i .i64 (n : Nat)] []).map (·.1) with
  | some (Val.i IntKind.u64 m) => decide (m = (2 ^ L2 8 n : Nat)) && decide (n < 2 ^ L2 8 n) && (decide (2 ^ L2 8 n ≤ 2 * n) || decide (n = 0))
  | _ => false
theorem lens : (List.range 128).all lenOk = true := by kernel_rfl
theorem nps : (List.range 128).all npOk = true := by kernel_rfl
theorem len_ok {n : Nat} (h : n < 128) (H : Heap) : SoundCall Try.prog 51 [.i .u64 (n : Nat)] H (fun v H' => v = .i .i64 (L2 8 n : Nat) ∧ H' = H) := by
  have := List.all_eq_true.1 lens n (List.mem_range.2 h)
  unfold lenOk at this
  split at this
  · rename_i m hm
    have e : m = (L2 8 n : Nat) := by simpa using this
    subst e
    exact sound_run ft2_ok ext_ok rfl rfl hm H
  · cases this
theorem np_ok {n : Nat} (h : n < 128) (h0 : 0 < n) (H : Heap) : SoundCall Try.prog 65 [.i .i64 (n : Nat)] H (fun v H' => (∃ m : Nat, v = .i .u64 (m : Nat) ∧ n < m ∧ m ≤ 2 * n) ∧ H' = H) := by
  have := List.all_eq_true.1 nps n (List.mem_range.2 h)
  unfold npOk at this
  split at this
  · rename_i m hm
    simp only [Bool.and_eq_true, Bool.or_eq_true, decide_eq_true_eq] at this
    obtain ⟨⟨e, h1⟩, h2⟩ := this
    subst e
    refine (sound_run ft2_ok ext_ok rfl rfl hm H).mono ?_
    rintro v H' ⟨rfl, rfl⟩
    exact ⟨⟨_, rfl, h1, by omega⟩, rfl⟩
  · cases this
theorem wrap_u (x : Int) : 0 ≤ IntKind.u64.wrap x ∧ IntKind.u64.wrap x ≤ 18446744073709551615 := by
  simp only [IntKind.wrap, IntKind.bits, IntKind.signed]
  simp
  omega
theorem next_c (r : Int) : SoundM Try.prog 1 66 [.p 0 0] [.rw [.i .u64 r]] (fun v H => ∃ r' : Int, v = .i .u64 r' ∧ H = [.rw [.i .u64 r']]) := by
  refine sound_told (sound_func Try.func66 c66 rfl (by simp) ?_)
  have key : ∀ r' : Int, Ev.Told 1 (fun v H => ∃ r' : Int, v = .i .u64 r' ∧ H = [.rw [.i .u64 r']]) (.i .u64 r') [.rw [.i .u64 r']] := by
    intro r'
    refine told [0] [.rw [.i .u64 r']] (.i .u64 r') ?_ (by decide) ?_ ?_ ?_ rfl ?_ ?_ ?_; iterate 6 (· simp [-List.map_map, embAt, nm, rn_rw, rn_ro, rn_map, rn_iter, rn_dead, renL, Val.ren, wfAll, wn_rw, wn_ro, wn_map, wn_iter, wn_dead, wfL, Val.wf, Env.get, initEnv, Val.ren])
    exact ⟨r', rfl, rfl⟩
  simp only [e66]
  refine GG0 ?_
  exact key _
theorem and_lt0 (x : Int) (m : Nat) (h0 : 0 < m) (hm : m ≤ 256) : ∃ r : Nat, (((BitVec.ofInt 64 x &&& BitVec.ofInt 64 ((m : Nat) - 1 : Int)).toNat : Nat) : Int) = (r : Nat) ∧ r < m := by
  have e : ((m : Nat) : Int) - 1 = ((m - 1 : Nat) : Int) := by omega
  rw [e]
  have h1 : (BitVec.ofInt 64 x &&& BitVec.ofInt 64 ((m - 1 : Nat) : Int)).toNat ≤ m - 1 := by
    rw [BitVec.toNat_and]
    refine Nat.le_trans Nat.and_le_right ?_
    rw [BitVec.ofInt_natCast, BitVec.toNat_ofNat]
    exact Nat.mod_le _ _
  exact ⟨_, rfl, by omega⟩
theorem and_lt (x : Int) (m : Nat) (h0 : 0 < m) (hm : m ≤ 256) : ∃ r : Nat, (((@HAnd.hAnd (BitVec 64) (BitVec 64) (BitVec 64) (@instHAndOfAndOp (BitVec IntKind.u64.bits) (@BitVec.instAndOp IntKind.u64.bits)) (BitVec.ofInt 64 x) (BitVec.ofInt 64 ((m : Nat) - 1 : Int))).toNat : Nat) : Int) = (r : Nat) ∧ r < m :=
  and_lt0 x m h0 hm
def BkI (f : Row) (n a b l idx m : Nat) (k : Nat) (ρ : Env) (H : Heap) : Prop :=
  ∃ (i : Nat) (g : Row) (r : Int), idx - 1 ≤ i ∧ i ≤ idx + 2 ∧ k = idx + 2 - i ∧ Sws a b f g ∧
    AnewS 1 [.rw (rC g n), .rw [.i .u64 r]] [(0, (.sl 0 0 n 3)), (1, .i .i64 (a : Nat)), (8, .i .i64 (l : Nat)), (9, .p 1 0), (10, .i .u64 (m : Nat)), (11, .i .i64 (i : Nat))] ρ H
theorem brk_c (f : Row) (n a b : Nat) (hab : a ≤ b) (hb : b ≤ n) (hn : n < 128) :
    SoundM Try.prog 1 56 [(.sl 0 0 n 3), .i .i64 (a : Nat), .i .i64 (b : Nat), (.fn (.func 37) [] [])] [.rw (rC f n)] (Sw f n a b fun v _ => v = .tup []) := by
  refine sound_told (sound_func Try.func56 c56 rfl (by simp) ?_)
  obtain ⟨l, rfl⟩ : ∃ l, b = a + l := ⟨b - a, by omega⟩
  have e0 : (((a + l : Nat) : Int)) - ((a : Nat) : Int) = ((l : Nat) : Int) := by omega
  simp only [e56]
  by_cases h8 : l ≥ 8
  · have hd : ((l : Nat) : Int) ≥ 8 := by omega
    have e1 : ((l : Nat) : Int) / 4 = ((l / 4 : Nat) : Int) := by omega
    obtain ⟨idx, hidx⟩ : ∃ idx, idx = a + (l / 4) * 2 := ⟨_, rfl⟩
    have ei : ((a : Nat) : Int) + ((l / 4 : Nat) : Int) * 2 = (idx : Nat) := by omega
    (have g0 := e0; have g1 := decide_t hd; refine GG2 ?_; clear g0 g1)
    (first | ((with_reducible first | apply RunP.call | apply Run.call | apply Run.call0); iterate 2 (· (simp only [go_sem, reduceIte, Nat.reduceEqDiff]; (try with_reducible exact rfl)))) | ((with_reducible first | apply Run.callY | apply RunP.callY); iterate 3 (· (simp only [go_sem, reduceIte, Nat.reduceEqDiff]; (try with_reducible exact rfl)))))
    refine (np_ok (n := l) (by omega) (by omega) _).mono ?_
    rintro v H' ⟨⟨m, rfl, hm1, hm2⟩, rfl⟩
    (first | refine And.intro rfl ?_ | refine And.intro trivial ?_ | skip)
    have ei1 : ((idx : Nat) : Int) - 1 = ((idx - 1 : Nat) : Int) := by omega
    have ei2 : ((idx : Nat) : Int) + 1 = ((idx + 1 : Nat) : Int) := by omega
    (have g0 := e1; have g1 := ei; have g2 := ei1; refine GG3 ?_; clear g0 g1 g2)
    refine ei_loop (BkI f n a (a + l) l idx m) (n := 3) ?_ ?_
    · refine ⟨idx - 1, f, (l : Nat), by omega, by omega, by omega, .refl, ?_⟩
      (refine anew [0, 1] ?_ (by decide) ?_ ?_ ?_ rfl ?_ ?_ <;> simp [-List.map_map, embAt, nm, rn_rw, rn_ro, rn_map, rn_iter, rn_dead, renL, Val.ren, wfAll, wn_rw, wn_ro, wn_map, wn_iter, wn_dead, wfL, Val.wf, Env.get, initEnv, rC_ren, rC_wf])
    · rintro k ρ H ⟨i, g, r, hi1, hi2, rfl, hs, ha⟩
      refine ei_anewS ha ?_
      clear ha
      have hl3 := rC_len g n
      by_cases hle : i ≤ idx + 1
      · have hd2 : ((i : Nat) : Int) ≤ ((idx + 1 : Nat) : Int) := by omega
        (have g0 := e1; have g1 := ei; have g2 := ei2; have g3 := decide_t hd2; refine GG4 ?_; clear g0 g1 g2 g3)
        (first | ((with_reducible first | apply RunP.call | apply Run.call | apply Run.call0); iterate 2 (· (simp only [go_sem, reduceIte, Nat.reduceEqDiff]; (try with_reducible exact rfl)))) | ((with_reducible first | apply Run.callY | apply RunP.callY); iterate 3 (· (simp only [go_sem, reduceIte, Nat.reduceEqDiff]; (try with_reducible exact rfl)))))
        refine sound_use (next_c r) [1] rfl (by decide) ?_ ?_ ?_ ?_ ?_; iterate 4 (· simp [-List.map_map, embAt, nm, rn_rw, rn_ro, rn_map, rn_iter, rn_dead, renL, Val.ren, wfAll, wn_rw, wn_ro, wn_map, wn_iter, wn_dead, wfL, Val.wf, Env.get, initEnv, Val.ren])
        rintro v C' ⟨r', rfl, rfl⟩
        simp only [merge, place, after, nm, MG, Val.ren, renL, rn_rw, rn_ro, rn_map, rn_iter, rn_dead, reduceIte, Nat.reduceLT, Nat.reduceAdd, Nat.reduceSub, Nat.lt_irrefl, Nat.zero_lt_one, Nat.zero_lt_succ, rC_ren]
        obtain ⟨o, ho, hom⟩ := and_lt r' m (by omega) (by omega)
        (have g0 := ho; refine GG1 ?_; clear g0)
        refine ei_mid (M := fun ρ H => ∃ o' : Nat, o' < l ∧ AnewS 1 [.rw (rC g n), .rw [.i .u64 r']] [(0, (.sl 0 0 n 3)), (1, .i .i64 (a : Nat)), (8, .i .i64 (l : Nat)), (9, .p 1 0), (10, .i .u64 (m : Nat)), (11, .i .i64 (i : Nat)), (12, .i .i64 (o' : Nat))] ρ H) ?_ ?_
        · by_cases hol : o ≥ l
          · have hd3 : ((o : Nat) : Int) ≥ ((l : Nat) : Int) := by omega
            have eo : ((o : Nat) : Int) - ((l : Nat) : Int) = ((o - l : Nat) : Int) := by omega
            (have g0 := decide_t hd3; have g1 := eo; refine GG2 ?_; clear g0 g1)
            refine ⟨o - l, by omega, ?_⟩
            (refine anew [0, 1] ?_ (by decide) ?_ ?_ ?_ rfl ?_ ?_ <;> simp [-List.map_map, embAt, nm, rn_rw, rn_ro, rn_map, rn_iter, rn_dead, renL, Val.ren, wfAll, wn_rw, wn_ro, wn_map, wn_iter, wn_dead, wfL, Val.wf, Env.get, initEnv, rC_ren, rC_wf])
          · have hd3 : ¬ ((o : Nat) : Int) ≥ ((l : Nat) : Int) := by omega
            (have g0 := decide_f hd3; refine GG1 ?_; clear g0)
            refine ⟨o, by omega, ?_⟩
            (refine anew [0, 1] ?_ (by decide) ?_ ?_ ?_ rfl ?_ ?_ <;> simp [-List.map_map, embAt, nm, rn_rw, rn_ro, rn_map, rn_iter, rn_dead, renL, Val.ren, wfAll, wn_rw, wn_ro, wn_map, wn_iter, wn_dead, wfL, Val.wf, Env.get, initEnv, rC_ren, rC_wf])
        · rintro ρ' H' ⟨o', ho', ha⟩
          refine ei_anewS ha ?_
          have eo : ((a : Nat) : Int) + ((o' : Nat) : Int) = ((a + o' : Nat) : Int) := by omega
          have e3 : ((i : Nat) : Int) + 1 = ((i + 1 : Nat) : Int) := by omega
          have hil : i < n := by omega
          have hol : a + o' < n := by omega
          (have g0 := eo; have g1 := e3; have g2 := fun qf => rC_get (f := qf) hil; have g3 := fun qf => rC_get (f := qf) hol; have g4 := fun qf q0 => rC_wr (f := qf) q0 hil; have g5 := fun qf q0 => rC_wr (f := qf) q0 hol; have g6 := rC_len; refine GG7 ?_; clear g0 g1 g2 g3 g4 g5 g6)
          have hsw : rC (So.upd (So.upd g i (g (a + o'))) (a + o') (g i)) n = rC (swp g i (a + o')) n := rfl
          rw [hsw]
          refine ⟨idx + 2 - (i + 1), by omega, i + 1, swp g i (a + o'), r', by omega, by omega, rfl, .swap i (a + o') hs ⟨by omega, by omega⟩ ⟨by omega, by omega⟩, ?_⟩
          (refine anew [0, 1] ?_ (by decide) ?_ ?_ ?_ rfl ?_ ?_ <;> simp [-List.map_map, embAt, nm, rn_rw, rn_ro, rn_map, rn_iter, rn_dead, renL, Val.ren, wfAll, wn_rw, wn_ro, wn_map, wn_iter, wn_dead, wfL, Val.wf, Env.get, initEnv, rC_ren, rC_wf])
      · have hd2 : ¬ ((i : Nat) : Int) ≤ ((idx + 1 : Nat) : Int) := by omega
        (have g0 := e1; have g1 := ei; have g2 := ei2; have g3 := decide_f hd2; refine GG4 ?_; clear g0 g1 g2 g3)
        refine told [0] [.rw (rC g n)] (.tup []) ?_ (by decide) ?_ ?_ ?_ rfl ?_ ?_ ?_; iterate 6 (· simp [-List.map_map, embAt, nm, rn_rw, rn_ro, rn_map, rn_iter, rn_dead, renL, Val.ren, wfAll, wn_rw, wn_ro, wn_map, wn_iter, wn_dead, wfL, Val.wf, Env.get, initEnv, rC_ren, rC_wf])
        exact ⟨g, hs, rfl, rfl⟩
  · have hd : ¬ ((l : Nat) : Int) ≥ 8 := by omega
    (have g0 := e0; have g1 := decide_f hd; refine GG2 ?_; clear g0 g1)
    refine told [0] [.rw (rC f n)] (.tup []) ?_ (by decide) ?_ ?_ ?_ rfl ?_ ?_ ?_; iterate 6 (· simp [-List.map_map, embAt, nm, rn_rw, rn_ro, rn_map, rn_iter, rn_dead, renL, Val.ren, wfAll, wn_rw, wn_ro, wn_map, wn_iter, wn_dead, wfL, Val.wf, Env.get, initEnv, rC_ren, rC_wf])
    exact ⟨f, .refl, rfl, rfl⟩
end Go.Proofs.Ytjahkgfihdngkaa.IR
