/- This text of a proof shows: a bitmap's contracts, told with five objects whatever its size. -/
import Derived.Test.YtphlceiachdneaaDoorI08
set_option linter.unusedVariables false
set_option linter.unusedSimpArgs false
set_option linter.constructorNameAsVariable false
namespace Go.Proofs.YtphlceiachdneaaDoor.Ev
open Go
variable {P : Program}
/-- Objects that stand for nothing may be told, too. -/
theorem SoundM.dead {m : Nat} {f : FuncId} {vs : List Val} {H : Heap} {Q : Val → Heap → Prop} (h : SoundM P m f vs H Q) : SoundM P m f vs H (fun v H' => Q v H' ∨ ∃ H1, Q v H1 ∧ H' = H1 ++ [.dead]) := h.mono fun _ _ q => .inl q
theorem PostM.more {m : Nat} {σ : Names} {H : Heap} {w : World} {Q R : Val → Heap → Prop} {e : Ending} {w' : World} (h : PostM m σ H w Q e w') (hq : ∀ v H', Q v H' → R v (H' ++ [.dead])) : PostM m σ H w R e w' := by
  obtain ⟨v, c, H', σ', rfl, hv, hQ, hr, hs⟩ := h
  refine ⟨v, c, _, σ', rfl, hv, hq v H' hQ, hr.grow _, ⟨hs.ext, by have := hs.len; simp; omega, hs.size, hs.keep, ?_, ?_, hs.rest, ?_⟩⟩
  all_goals
    have back : ∀ x, x < H'.length → (H' ++ [AObj.dead])[x]? = H'[x]? := fun x h => List.getElem?_append_left h
  · rintro id l h2 ⟨q, a, b⟩
    exact hs.fresh id l h2 ⟨q, by rw [← back id (hr.dom id l h2)]; exact a, b⟩
  · rintro id h1 ⟨q, a, b⟩
    exact hs.live id h1 ⟨q, by rw [← back id (Nat.lt_of_lt_of_le h1 hs.len)]; exact a, b⟩
  · rintro id l h2 ⟨q, a, b⟩
    exact hs.ro id l h2 ⟨q, by rw [← back id (hr.dom id l h2)]; exact a, b⟩
theorem SoundM.more {m : Nat} {f : FuncId} {vs : List Val} {H : Heap} {Q R : Val → Heap → Prop} (h : SoundM P m f vs H Q) (hq : ∀ v H', Q v H' → R v (H' ++ [.dead])) : SoundM P m f vs H R := by
  refine ⟨h.1, fun σ w cs r l => ?_⟩
  rcases h.2 σ w cs r l with ⟨g, h1, h2⟩ | ⟨c, w', h1, h2⟩
  · exact .inl ⟨g, h1, h2.mono fun e w' q => q.more hq⟩
  · exact .inr ⟨c, w', h1, h2.more hq⟩
end Go.Proofs.YtphlceiachdneaaDoor.Ev
namespace Go.Proofs.YtphlceiachdneaaDoor.IR
open Go Go.Proofs.YtphlceiachdneaaDoor.Ev
set_option linter.unusedSimpArgs false
set_option linter.unusedVariables false
set_option maxHeartbeats 4000000
attribute [local go_sem] skipV nc0 nc1 nc2 nc3 bne_self_eq_false decide_true decide_false IOp.step Opd.ev Env.get initEnv Val.cells? Val.one List.all_cons List.all_nil Bool.and_true Bool.and_self Bool.true_and bin_shr6 bin_rem bin_shrw bin_shl1 bin_shl6 bin_and1 bin_or bin_andNot bitN_eq bin_quo bin_mul bin_add bin_sub bin_lss bin_leq bin_gtr bin_geq bin_eql bin_neq eqv Val.kindNo lenNo_s lenNo_nils lenNo_sl lenNo_nilm lenNo_m lenOf_s lenOf_nils lenOf_sl lenOf_nilm unary mxs mx2 partsOf padTo List.foldl_cons List.foldl_nil wr_nil wr_step wr_zero List.set_cons_zero List.set_cons_succ List.map_cons List.map_nil z1 z2 Nat.succ_ne_zero List.length_cons List.length_nil List.cons_append List.nil_append List.append_nil List.getElem?_cons_zero List.getElem?_cons_succ List.getElem?_nil Option.map_some Option.map_none Nat.zero_add Nat.add_zero List.drop_zero List.drop_succ_cons List.take_succ_cons List.take_zero List.take_nil and_self and_true true_and Nat.le_refl Bool.not_true Bool.not_false Option.getD_some window Val.slen bnd resV resL RV.val Bool.false_eq_true BEq.rfl Bool.true_beq Bool.false_beq beq_true beq_false mk_one ite_true ite_false eqc ceqs ceq
def BB.hd (b : BB) (i : Nat) : List Val := [.sl i 0 (if b.n ≤ 64 then 1 else if b.n ≤ 4096 then 2 else 3) 1, .i .i64 b.n, .i .i64 b.k]
def BB.fl (b : BB) (i j k : Nat) : List Val := if b.n ≤ 64 then [.sl i 0 1 1] else if b.n ≤ 4096 then [.sl i 0 b.L 1, .sl j 0 1 1] else [.sl i 0 b.L 1, .sl j 0 b.M 1, .sl k 0 1 1]
def BB.o2 (b : BB) : AObj := .rw (Wd b.p (if b.n ≤ 64 then 1 else b.L))
def BB.o3 (b : BB) : AObj := if b.n ≤ 64 then .dead else .rw (Wd (up b.p) (if b.n ≤ 4096 then 1 else b.M))
def BB.o4 (b : BB) : AObj := if b.n ≤ 64 then .dead else if b.n ≤ 4096 then .dead else .rw (Wd (up (up b.p)) 1)
def BB.pad (b : BB) : Heap := [.rw (b.hd 1), .rw (b.fl 2 3 4), b.o2, b.o3, b.o4]
theorem BB.hd_ren (ι : Nat → Nat) (b : BB) (i : Nat) : renL ι (b.hd i) = b.hd (ι i) := rfl
theorem BB.fl_ren (ι : Nat → Nat) (b : BB) (i j k : Nat) : renL ι (b.fl i j k) = b.fl (ι i) (ι j) (ι k) := by unfold BB.fl; split; rfl; split <;> rfl
theorem BB.o2_ren (ι : Nat → Nat) (b : BB) : b.o2.ren ι = b.o2 := by unfold BB.o2; simp [AObj.ren, Wd_ren]
theorem BB.o3_ren (ι : Nat → Nat) (b : BB) : b.o3.ren ι = b.o3 := by unfold BB.o3; split <;> simp [AObj.ren, Wd_ren]
theorem BB.o4_ren (ι : Nat → Nat) (b : BB) : b.o4.ren ι = b.o4 := by unfold BB.o4; split; rfl; split <;> simp [AObj.ren, Wd_ren]
theorem BB.hd_wf (m : Nat) (b : BB) (i : Nat) : wfL m (b.hd i) = decide (i < m) := by simp [BB.hd, wfL, Val.wf]
theorem BB.fl_wf (m : Nat) (b : BB) (i j k : Nat) (h : i < m ∧ j < m ∧ k < m) : wfL m (b.fl i j k) = true := by unfold BB.fl; split; (· simp [wfL, Val.wf, h]); split <;> simp [wfL, Val.wf, h]
theorem BB.o2_wf (m : Nat) (b : BB) : b.o2.wf m = true := by unfold BB.o2; simp [AObj.wf, Wd_wf]
theorem BB.o3_wf (m : Nat) (b : BB) : b.o3.wf m = true := by unfold BB.o3; split <;> simp [AObj.wf, Wd_wf]
theorem BB.o4_wf (m : Nat) (b : BB) : b.o4.wf m = true := by unfold BB.o4; split; rfl; split <;> simp [AObj.wf, Wd_wf]
attribute [local simp] Wd_ren Wd_wf map_i64 map_i64_wf
/-- A contract told with the three, four or five objects, told with five. -/
theorem padM {b : BB} {f : FuncId} {x : List Val} {R : Val → BB → Prop} (hx : ∀ ι, renL ι x = x) (hw : ∀ m, wfL m x = true) (hR : ∀ v b', R v b' → ∀ ι, v.ren ι = v)
    (hc : SoundM Tryd.prog b.m f (.p 0 0 :: x) b.heap (fun v H' => ∃ b' : BB, b'.n = b.n ∧ b'.L = b.L ∧ b'.M = b.M ∧ H' = b'.heap ∧ R v b')) :
    SoundM Tryd.prog 5 f (.p 0 0 :: x) b.pad (fun v H' => ∃ b' : BB, b'.n = b.n ∧ b'.L = b.L ∧ b'.M = b.M ∧ H' = b'.pad ∧ R v b') := by
  have : SoundCall Tryd.prog f (.p 0 0 :: x) b.pad (fun v H' => ∃ b' : BB, b'.n = b.n ∧ b'.L = b.L ∧ b'.M = b.M ∧ H' = b'.pad ∧ R v b') := by
    rcases b.shape with ⟨h, h'⟩ | ⟨h, h'⟩ | ⟨h, h'⟩
    all_goals
      simp only [BB.m, BB.heap, h, h', if_true, if_false] at hc
      simp only [BB.pad, BB.hd, BB.fl, BB.o2, BB.o3, BB.o4, h, h', if_true, if_false]
      (first | (have _s : _ ≤ 64 := of_eq_true h; refine sound_use (hc) [0, 1, 2] rfl (by decide) (by simp [-List.map_map, embAt, nm, AObj.ren, renL, Val.ren, hx, hw, wfL]) (by simp [-List.map_map, wfAll, AObj.wf, wfL, Val.wf, hx, hw, wfL]) (by simp [-List.map_map, Val.wf, wfL, hx, hw, wfL]) (by simp [-List.map_map, Val.ren, renL, nm, hx, hw, wfL]) ?_) | (have _s : _ ≤ 4096 := of_eq_true h'; refine sound_use (hc) [0, 1, 2, 3] rfl (by decide) (by simp [-List.map_map, embAt, nm, AObj.ren, renL, Val.ren, hx, hw, wfL]) (by simp [-List.map_map, wfAll, AObj.wf, wfL, Val.wf, hx, hw, wfL]) (by simp [-List.map_map, Val.wf, wfL, hx, hw, wfL]) (by simp [-List.map_map, Val.ren, renL, nm, hx, hw, wfL]) ?_) | (refine sound_use (hc) [0, 1, 2, 3, 4] rfl (by decide) (by simp [-List.map_map, embAt, nm, AObj.ren, renL, Val.ren, hx, hw, wfL]) (by simp [-List.map_map, wfAll, AObj.wf, wfL, Val.wf, hx, hw, wfL]) (by simp [-List.map_map, Val.wf, wfL, hx, hw, wfL]) (by simp [-List.map_map, Val.ren, renL, nm, hx, hw, wfL]) ?_))
      rintro v C' ⟨b', e1, e2, e3, rfl, hr⟩
      (try rw [← e1] at h) ; (try rw [← e1] at h')
      refine ⟨b', e1, e2, e3, ?_, by rw [hR v b' hr]; exact hr⟩
      simp only [h, h', if_true, if_false]
      simp only [merge, place, after, nm, MG, Val.ren, renL, AObj.ren, reduceIte, Nat.reduceLT, Nat.reduceAdd, Nat.reduceSub, Nat.lt_irrefl, Nat.zero_lt_one, Nat.zero_lt_succ, BB.pad, BB.hd, BB.fl, BB.o2, BB.o3, BB.o4, h, h', Wd_ren, if_true, if_false]
  exact this
theorem setP (b : BB) (hb : b.ok) (i : Int) : SoundM Tryd.prog 5 18 [.p 0 0, .i .i64 i] b.pad (fun v H' => ∃ b' : BB, b'.n = b.n ∧ b'.L = b.L ∧ b'.M = b.M ∧ H' = b'.pad ∧
    ((b.has i = false ∧ 0 ≤ i ∧ i < b.n ∧ v = .b true ∧ b' = b.set i.toNat) ∨ ((b.has i = true ∨ ¬ (0 ≤ i ∧ i < b.n)) ∧ v = .b false ∧ b' = b))) := by
  refine padM (fun _ => rfl) (fun _ => rfl) (by rintro v b' (⟨_, _, _, rfl, _⟩ | ⟨_, rfl, _⟩) ι <;> rfl) ((set_c b hb i).mono ?_)
  rintro v H' (⟨h1, h2, h3, rfl, rfl⟩ | ⟨h1, rfl, rfl⟩)
  · exact ⟨b.set i.toNat, rfl, rfl, rfl, rfl, .inl ⟨h1, h2, h3, rfl, rfl⟩⟩
  · exact ⟨b, rfl, rfl, rfl, rfl, .inr ⟨h1, rfl, rfl⟩⟩
theorem clearP (b : BB) (hb : b.ok) (i : Int) (hpos : b.has i = true → 1 ≤ b.k) : SoundM Tryd.prog 5 19 [.p 0 0, .i .i64 i] b.pad (fun v H' => ∃ b' : BB, b'.n = b.n ∧ b'.L = b.L ∧ b'.M = b.M ∧ H' = b'.pad ∧
    ((b.has i = true ∧ v = .b true ∧ b' = b.clear i.toNat) ∨ (b.has i = false ∧ v = .b false ∧ b' = b))) := by
  refine padM (fun _ => rfl) (fun _ => rfl) (by rintro v b' (⟨_, rfl, _⟩ | ⟨_, rfl, _⟩) ι <;> rfl) ((clear_c b hb i hpos).mono ?_)
  rintro v H' (⟨h1, rfl, rfl⟩ | ⟨h1, rfl, rfl⟩)
  · exact ⟨b.clear i.toNat, rfl, rfl, rfl, rfl, .inl ⟨h1, rfl, rfl⟩⟩
  · exact ⟨b, rfl, rfl, rfl, rfl, .inr ⟨h1, rfl, rfl⟩⟩
/-- A contract that leaves the bitmap as it is. -/
theorem padQ {b : BB} {f : FuncId} {x : List Val} {R : Val → Prop} (hx : ∀ ι, renL ι x = x) (hw : ∀ m, wfL m x = true) (hR : ∀ v, R v → ∀ ι, v.ren ι = v)
    (h : SoundM Tryd.prog b.m f (.p 0 0 :: x) b.heap (fun v H' => H' = b.heap ∧ R v)) : SoundM Tryd.prog 5 f (.p 0 0 :: x) b.pad (fun v H' => H' = b.pad ∧ R v) := by
  refine (padM (R := fun v b' => b' = b ∧ R v) hx hw (fun v b' hr => hR v hr.2) (h.mono ?_)).mono ?_
  · rintro v H' ⟨rfl, hr⟩
    exact ⟨b, rfl, rfl, rfl, rfl, rfl, hr⟩
  · rintro v H' ⟨b', _, _, _, rfl, rfl, hr⟩
    exact ⟨rfl, hr⟩
theorem hasP (b : BB) (hb : b.ok) (i : Int) : SoundM Tryd.prog 5 13 [.p 0 0, .i .i64 i] b.pad (fun v H' => H' = b.pad ∧ v = .b (b.has i)) :=
  padQ (fun _ => rfl) (fun _ => rfl) (by rintro v rfl ι; rfl) ((has_c b hb i).mono fun v H' h => ⟨h.2, h.1⟩)
theorem ans_ren (o : Option Nat) (ι : Nat → Nat) : (ans o).ren ι = ans o := by cases o <;> rfl
theorem nextP (b : BB) (hb : b.ok) (i : Int) : SoundM Tryd.prog 5 12 [.p 0 0, .i .i64 i] b.pad (fun v H' => H' = b.pad ∧ ∃ o, IsNext b.p i.toNat o ∧ v = ans o) :=
  padQ (fun _ => rfl) (fun _ => rfl) (by rintro v ⟨o, _, rfl⟩ ι; exact ans_ren o ι) (next_c b hb i)
theorem roundP (b : BB) (hb : b.ok) (i : Int) : SoundM Tryd.prog 5 10 [.p 0 0, .i .i64 i] b.pad (fun v H' => H' = b.pad ∧ ∃ o, IsRound b.p i.toNat o ∧ v = ans o) :=
  padQ (fun _ => rfl) (fun _ => rfl) (by rintro v ⟨o, _, rfl⟩ ι; exact ans_ren o ι) (round_c b hb i)
theorem lenP (b : BB) : SoundM Tryd.prog 5 14 [.p 0 0] b.pad (fun v H' => H' = b.pad ∧ v = .i .i64 b.k) :=
  padQ (fun _ => rfl) (fun _ => rfl) (by rintro v rfl ι; rfl) ((len_c b).mono fun v H' h => ⟨h.2, h.1⟩)
theorem newP (n : Nat) (h1 : 1 ≤ n) (h2 : n ≤ 65536) : SoundM Tryd.prog 0 15 [.i .i64 n] [] (fun v H' => v = .tup [.p 0 0, .i .i64 0] ∧ H' = (BB.new n).pad) := by
  rcases (BB.new n).shape with ⟨h, h'⟩ | ⟨h, h'⟩ | ⟨h, h'⟩
  · refine ((new_c n h1 h2).more (R := fun v H' => v = .tup [.p 0 0, .i .i64 0] ∧ H' = (BB.new n).heap ++ [.dead]) ?_).more ?_
    · rintro v H' ⟨rfl, rfl⟩; exact ⟨rfl, rfl⟩
    · rintro v H' ⟨rfl, rfl⟩
      exact ⟨rfl, by simp only [BB.pad, BB.heap, BB.hd, BB.fl, BB.o2, BB.o3, BB.o4, h, h', if_true, if_false, List.cons_append, List.nil_append]⟩
  · refine (new_c n h1 h2).more ?_
    rintro v H' ⟨rfl, rfl⟩
    exact ⟨rfl, by simp only [BB.pad, BB.heap, BB.hd, BB.fl, BB.o2, BB.o3, BB.o4, h, h', if_true, if_false, List.cons_append, List.nil_append]⟩
  · refine (new_c n h1 h2).mono ?_
    rintro v H' ⟨rfl, rfl⟩
    exact ⟨rfl, by simp only [BB.pad, BB.heap, BB.hd, BB.fl, BB.o2, BB.o3, BB.o4, h, h', if_true, if_false]⟩
/-- A list of numbers as an object: none, if there are none. -/
def iO (d : List Int) : AObj := if d = [] then .dead else .rw (d.map (.i .i64))
theorem iO_ren (ι : Nat → Nat) (d : List Int) : (iO d).ren ι = iO d := by unfold iO; split <;> simp [AObj.ren]
theorem iO_wf (m : Nat) (d : List Int) : (iO d).wf m = true := by unfold iO; split <;> simp [AObj.wf]
theorem iV_ren (ι : Nat → Nat) (k : Nat) (d : List Int) : (iV k d).ren ι = iV (ι k) d := by unfold iV; split <;> rfl
theorem iV_wf (m k : Nat) (d : List Int) (h : k < m) : (iV k d).wf m = true := by unfold iV; split <;> simp [Val.wf, h]
theorem allP (b : BB) (hb : b.ok) : SoundM Tryd.prog 5 25 [.p 0 0] b.pad (fun v H' => v = iV 5 (upto b.p b.n) ∧ H' = b.pad ++ [iO (upto b.p b.n)]) := by
  have ha := all_c b hb
  have key : SoundCall Tryd.prog 25 [.p 0 0] b.pad (fun v H' => v = iV 5 (upto b.p b.n) ∧ H' = b.pad ++ iH (upto b.p b.n)) := by
    by_cases hu : upto b.p b.n = []
    all_goals
      rcases b.shape with ⟨h, h'⟩ | ⟨h, h'⟩ | ⟨h, h'⟩
      all_goals
        simp only [BB.m, BB.heap, h, h', if_true, if_false, iV, iH, hu] at ha ⊢
        simp only [BB.pad, BB.hd, BB.fl, BB.o2, BB.o3, BB.o4, h, h', if_true, if_false]
        (first | (have _s : _ ≤ 64 := of_eq_true h; refine sound_use (ha) [0, 1, 2] rfl (by decide) (by simp [-List.map_map, embAt, nm, AObj.ren, renL, Val.ren, nc0]) (by simp [-List.map_map, wfAll, AObj.wf, wfL, Val.wf, nc0]) (by simp [-List.map_map, Val.wf, wfL, nc0]) (by simp [-List.map_map, Val.ren, renL, nm, nc0]) ?_) | (have _s : _ ≤ 4096 := of_eq_true h'; refine sound_use (ha) [0, 1, 2, 3] rfl (by decide) (by simp [-List.map_map, embAt, nm, AObj.ren, renL, Val.ren, nc0]) (by simp [-List.map_map, wfAll, AObj.wf, wfL, Val.wf, nc0]) (by simp [-List.map_map, Val.wf, wfL, nc0]) (by simp [-List.map_map, Val.ren, renL, nm, nc0]) ?_) | (refine sound_use (ha) [0, 1, 2, 3, 4] rfl (by decide) (by simp [-List.map_map, embAt, nm, AObj.ren, renL, Val.ren, nc0]) (by simp [-List.map_map, wfAll, AObj.wf, wfL, Val.wf, nc0]) (by simp [-List.map_map, Val.wf, wfL, nc0]) (by simp [-List.map_map, Val.ren, renL, nm, nc0]) ?_))
        rintro v C' ⟨rfl, rfl⟩
        simp only [merge, place, after, nm, MG, Val.ren, renL, AObj.ren, reduceIte, Nat.reduceLT, Nat.reduceAdd, Nat.reduceSub, Nat.lt_irrefl, Nat.zero_lt_one, Nat.zero_lt_succ, BB.pad, BB.hd, BB.fl, BB.o2, BB.o3, BB.o4, h, h', Wd_ren, map_i64, if_true, if_false, List.cons_append, List.nil_append, List.append_nil, and_self]
        try exact ⟨rfl, rfl⟩
  have key : SoundM Tryd.prog 5 25 [.p 0 0] b.pad (fun v H' => v = iV 5 (upto b.p b.n) ∧ H' = b.pad ++ iH (upto b.p b.n)) := key
  by_cases hu : upto b.p b.n = []
  · refine key.more ?_
    rintro v H' ⟨rfl, rfl⟩
    exact ⟨rfl, by simp [iH, iO, hu]⟩
  · refine key.mono ?_
    rintro v H' ⟨rfl, rfl⟩
    exact ⟨rfl, by simp [iH, iO, hu]⟩
theorem iV_sl {H : Heap} (k : Nat) (d : List Int) (h : H[k]? = some (iO d)) : IsSl H (iV k d) d := by
  unfold iV iO at *
  by_cases e : d = []
  · rw [if_pos e]; exact .inl ⟨rfl, e⟩
  · rw [if_neg e] at h ⊢; exact isl_all k d h
end Go.Proofs.YtphlceiachdneaaDoor.IR
