/- This text of a proof shows: objects that stand somewhere in a heap, and what a call that works on them leaves of all others. -/
import Derived.Test.YtmdilnelogechaaDoorEvF
set_option linter.unusedVariables false
set_option linter.unusedSimpArgs false
set_option linter.constructorNameAsVariable false
namespace Go.Proofs.YtmdilnelogechaaDoor.Ev
open Go
mutual
theorem ren_same {f g : Nat → Nat} {n : Nat} (h : ∀ x, x < n → f x = g x) : ∀ v : Val, v.wf n = true → v.ren f = v.ren g
  | .u, _ => rfl
  | .b _, _ => rfl
  | .i _ _, _ => rfl
  | .s _, _ => rfl
  | .nilp, _ => rfl
  | .p id off, hw => by
    simp only [Val.wf, decide_eq_true_eq] at hw
    simp only [Val.ren, h _ hw]
  | .nils, _ => rfl
  | .sl id _ _ _, hw => by
    simp only [Val.wf, decide_eq_true_eq] at hw
    simp only [Val.ren, h _ hw]
  | .nilm, _ => rfl
  | .m id, hw => by
    simp only [Val.wf, decide_eq_true_eq] at hw
    simp only [Val.ren, h _ hw]
  | .nilf, _ => rfl
  | .fn _ a b, hw => by
    simp only [Val.wf, Bool.and_eq_true] at hw
    simp only [Val.ren, renL_same h a hw.1, renL_same h b hw.2]
  | .nili, _ => rfl
  | .ifc _ v, hw => by
    simp only [Val.wf] at hw
    simp only [Val.ren, ren_same h v hw]
  | .agg l, hw => by
    simp only [Val.wf] at hw
    simp only [Val.ren, renL_same h l hw]
  | .tup l, hw => by
    simp only [Val.wf] at hw
    simp only [Val.ren, renL_same h l hw]
  | .yld id, hw => by
    simp only [Val.wf, decide_eq_true_eq] at hw
    simp only [Val.ren, h _ hw]
theorem renL_same {f g : Nat → Nat} {n : Nat} (h : ∀ x, x < n → f x = g x) : ∀ l : List Val, wfL n l = true → renL f l = renL g l
  | [], _ => rfl
  | v :: r, hw => by
    simp only [wfL, Bool.and_eq_true] at hw
    simp only [renL, ren_same h v hw.1, renL_same h r hw.2]
end
theorem obj_same {f g : Nat → Nat} {n : Nat} (h : ∀ x, x < n → f x = g x) {o : AObj} (hw : o.wf n = true) : o.ren f = o.ren g := by
  cases o with
  | rw c => simp only [AObj.wf] at hw; simp only [AObj.ren, renL_same h c hw]
  | ro c => simp only [AObj.wf] at hw; simp only [AObj.ren, renL_same h c hw]
  | map es ck =>
    simp only [AObj.wf, List.all_eq_true, Bool.and_eq_true] at hw
    simp only [AObj.ren]
    congr 1
    exact List.map_congr_left fun x hx => by rw [ren_same h _ (hw x hx).1, ren_same h _ (hw x hx).2]
  | iter mid a b c => simp only [AObj.wf, decide_eq_true_eq] at hw; simp only [AObj.ren, h _ hw]
  | loop st pend N ρ ps asg body =>
    simp only [AObj.wf, List.all_eq_true] at hw
    simp only [AObj.ren]
    congr 1
    exact List.map_congr_left fun x hx => by rw [ren_same h _ (hw x hx)]
  | dead => rfl
mutual
theorem vwf_mono {m n : Nat} (h : m ≤ n) : ∀ v : Val, v.wf m = true → v.wf n = true
  | .u, _ => rfl
  | .b _, _ => rfl
  | .i _ _, _ => rfl
  | .s _, _ => rfl
  | .nilp, _ => rfl
  | .p id off, hw => by simp only [Val.wf, decide_eq_true_eq] at hw ⊢; omega
  | .nils, _ => rfl
  | .sl id _ _ _, hw => by simp only [Val.wf, decide_eq_true_eq] at hw ⊢; omega
  | .nilm, _ => rfl
  | .m id, hw => by simp only [Val.wf, decide_eq_true_eq] at hw ⊢; omega
  | .nilf, _ => rfl
  | .fn _ a b, hw => by
    simp only [Val.wf, Bool.and_eq_true] at hw ⊢
    exact ⟨wfL_mono h a hw.1, wfL_mono h b hw.2⟩
  | .nili, _ => rfl
  | .ifc _ v, hw => by simp only [Val.wf] at hw ⊢; exact vwf_mono h v hw
  | .agg l, hw => by simp only [Val.wf] at hw ⊢; exact wfL_mono h l hw
  | .tup l, hw => by simp only [Val.wf] at hw ⊢; exact wfL_mono h l hw
  | .yld id, hw => by simp only [Val.wf, decide_eq_true_eq] at hw ⊢; omega
theorem wfL_mono {m n : Nat} (h : m ≤ n) : ∀ l : List Val, wfL m l = true → wfL n l = true
  | [], _ => rfl
  | v :: r, hw => by
    simp only [wfL, Bool.and_eq_true] at hw ⊢
    exact ⟨vwf_mono h v hw.1, wfL_mono h r hw.2⟩
end
theorem wf_mono {m n : Nat} (h : m ≤ n) {o : AObj} (hw : o.wf m = true) : o.wf n = true := by
  cases o with
  | rw c => exact wfL_mono h c hw
  | ro c => exact wfL_mono h c hw
  | map es ck =>
    simp only [AObj.wf, List.all_eq_true, Bool.and_eq_true] at hw ⊢
    exact fun x hx => ⟨vwf_mono h _ (hw x hx).1, vwf_mono h _ (hw x hx).2⟩
  | iter mid a b c => simp only [AObj.wf, decide_eq_true_eq] at hw ⊢; omega
  | loop st pend N ρ ps asg body =>
    simp only [AObj.wf, List.all_eq_true] at hw ⊢
    exact fun x hx => vwf_mono h _ (hw x hx)
  | dead => rfl
mutual
theorem ren_id : ∀ v : Val, v.ren id = v
  | .u => rfl
  | .b _ => rfl
  | .i _ _ => rfl
  | .s _ => rfl
  | .nilp => rfl
  | .p _ _ => rfl
  | .nils => rfl
  | .sl _ _ _ _ => rfl
  | .nilm => rfl
  | .m _ => rfl
  | .nilf => rfl
  | .fn _ a b => by simp only [Val.ren, renL_id a, renL_id b]
  | .nili => rfl
  | .ifc _ v => by simp only [Val.ren, ren_id v]
  | .agg l => by simp only [Val.ren, renL_id l]
  | .tup l => by simp only [Val.ren, renL_id l]
  | .yld _ => rfl
theorem renL_id : ∀ l : List Val, renL id l = l
  | [] => rfl
  | v :: r => by simp only [renL, ren_id v, renL_id r]
end
theorem obj_id (o : AObj) : o.ren id = o := by
  cases o with
  | rw c => simp only [AObj.ren, renL_id]
  | ro c => simp only [AObj.ren, renL_id]
  | map es ck => simp [AObj.ren, ren_id]
  | iter mid a b c => rfl
  | loop st pend N ρ ps asg body => simp [AObj.ren, ren_id]
  | dead => rfl
/-- The objects C stand in H at the places ids. -/
structure At (H : Heap) (ids : List Nat) (C : Heap) : Prop where
  len : ids.length = C.length
  nodup : ids.Nodup
  emb : ∀ (x : Nat) (o : AObj), C[x]? = some o → H[nm ids x]? = some (o.ren (nm ids))
  wf : ∀ (x : Nat) (o : AObj), C[x]? = some o → o.wf C.length = true
theorem nm_get {ids : List Nat} {x i : Nat} (h : ids[x]? = some i) : nm ids x = i := by simp [nm, h]
theorem At.lt {H C : Heap} {ids : List Nat} (h : At H ids C) {i : Nat} (hi : i ∈ ids) : i < H.length := by
  obtain ⟨x, hx, rfl⟩ := List.getElem_of_mem hi
  have hc : x < C.length := by have := h.len; omega
  have := h.emb x _ (List.getElem?_eq_getElem hc)
  rw [nm_get (List.getElem?_eq_getElem hx)] at this
  exact (List.getElem?_eq_some_iff.1 this).1
theorem At.congr {H C : Heap} {ids : List Nat} (h : At H ids C) {H' : Heap} (hk : ∀ i ∈ ids, H'[i]? = H[i]?) : At H' ids C := by
  refine ⟨h.len, h.nodup, fun x o hx => ?_, h.wf⟩
  have hc : x < ids.length := by rw [h.len]; exact (List.getElem?_eq_some_iff.1 hx).1
  have hg := nm_get (List.getElem?_eq_getElem hc)
  rw [hk _ (by rw [hg]; exact List.getElem_mem hc)]
  exact h.emb x o hx
theorem At.push {H C : Heap} {ids : List Nat} (h : At H ids C) (R : Heap) : At (H ++ R) ids C :=
  h.congr fun i hi => List.getElem?_append_left (h.lt hi)
theorem At.set {H C : Heap} {ids : List Nat} (h : At H ids C) {i : Nat} (hi : i ∉ ids) (o : AObj) : At (H.set i o) ids C :=
  h.congr fun j hj => List.getElem?_set_ne (by rintro rfl; exact hi hj)
variable {P : Program}
/-- What a call leaves that works on the objects C alone. -/
structure Left (k : Nat) (H : Heap) (ids : List Nat) (H' : Heap) (C' : Heap) : Prop where
  len : H'.length = H.length + (C'.length - k)
  keep : ∀ i, i < H.length → i ∉ ids → H'[i]? = H[i]?
  at_ : (∀ (x : Nat) (o : AObj), C'[x]? = some o → o.wf C'.length = true) → k ≤ C'.length → At H' (ids.take k ++ List.range' H.length (C'.length - k)) C'
theorem At.call {k : Nat} {f : FuncId} {vs ws : List Val} {C H : Heap} {Q : Val → Heap → Prop} {ids : List Nat} (c : SoundM P k f vs C Q) (h : At H ids C) (hv : wfL C.length vs = true) (hw : ws = renL (nm ids) vs) :
    SoundCall P f ws H (fun v H' => ∃ v0 C', Q v0 C' ∧ v = v0.ren (after (nm ids) k H.length) ∧ Left k H ids H' C') := by
  have hkC : k ≤ C.length := c.1
  refine (sound_frame c h.len h.nodup h.emb h.wf hv hw).mono ?_
  rintro v H' ⟨v0, C', hq, rfl, rfl⟩
  have hids : ∀ (x : Nat), x < C.length → ∃ i, ids[x]? = some i ∧ nm ids x = i ∧ i < H.length := fun x hx => by
    have hx' : x < ids.length := by have := h.len; omega
    exact ⟨ids[x], List.getElem?_eq_getElem hx', nm_get (List.getElem?_eq_getElem hx'), h.lt (List.getElem_mem hx')⟩
  refine ⟨v0, C', hq, rfl, ?_, fun i hi hn => ?_, fun hwf hk => ?_⟩
  · simp only [merge, List.length_append, place_length, List.length_map, List.length_drop]
  · simp only [merge]
    rw [List.getElem?_append_left (by rw [place_length]; exact hi), place_out _ _ _ _ _ _ hn]
  · have hlt : (ids.take k).length = k := by rw [List.length_take, h.len]; omega
    have hnm : ∀ x, x < C'.length → nm (ids.take k ++ List.range' H.length (C'.length - k)) x = after (nm ids) k H.length x := fun x hx => by
      unfold after
      by_cases hxk : x < k
      · rw [if_pos hxk]
        obtain ⟨i, h1, h2, _⟩ := hids x (by omega)
        rw [h2]
        refine nm_get ?_
        rw [List.getElem?_append_left (by omega), List.getElem?_take, if_pos hxk, h1]
      · rw [if_neg hxk]
        refine nm_get ?_
        rw [List.getElem?_append_right (by omega), hlt, List.getElem?_range' (by omega)]
        simp
    refine ⟨by rw [List.length_append, hlt, List.length_range']; omega, ?_, fun x o hx => ?_, hwf⟩
    · refine List.nodup_append.2 ⟨(List.take_sublist _ _).nodup h.nodup, List.nodup_range', fun a ha b hb e => ?_⟩
      subst e
      have h1 := h.lt (List.take_subset _ _ ha)
      have h2 := List.mem_range'_1.1 hb
      omega
    · have hxl := (List.getElem?_eq_some_iff.1 hx).1
      rw [hnm x hxl, obj_same hnm (hwf x o hx)]
      simp only [merge]
      unfold after
      by_cases hxk : x < k
      · rw [if_pos hxk]
        obtain ⟨i, h1, h2, h3⟩ := hids x (by omega)
        rw [h2, List.getElem?_append_left (by rw [place_length]; exact h3), place_in _ _ _ _ _ _ x i h.nodup h1 h3, Nat.zero_add, if_pos hxk, hx]
        rfl
      · rw [if_neg hxk, List.getElem?_append_right (by rw [place_length]; omega), place_length]
        rw [show H.length + (x - k) - H.length = x - k by omega, List.getElem?_map, List.getElem?_drop, show k + (x - k) = x by omega, hx]
        rfl
/-- What stands in front of all that a call works on stays. -/
theorem Left.front {k : Nat} {A R H' C' : Heap} {ids : List Nat} (h : Left k (A ++ R) ids H' C') (hn : ∀ i ∈ ids, A.length ≤ i) : ∃ R', H' = A ++ R' := by
  have hl := h.len
  refine ⟨H'.drop A.length, ?_⟩
  apply List.ext_getElem?
  intro i
  by_cases hi : i < A.length
  · rw [h.keep i (by simp; omega) (fun hm => by have := hn i hm; omega), List.getElem?_append_left hi, List.getElem?_append_left hi]
  · rw [List.getElem?_append_right (by omega), List.getElem?_drop]
    congr 1; omega
theorem Left.ge {k : Nat} {H H' C' : Heap} {ids : List Nat} {a : Nat} (hn : ∀ i ∈ ids, a ≤ i) (ha : a ≤ H.length) : ∀ i ∈ ids.take k ++ List.range' H.length (C'.length - k), a ≤ i := fun i hi => by
  rcases List.mem_append.1 hi with hi | hi
  · exact hn i (List.take_subset _ _ hi)
  · have := List.mem_range'_1.1 hi; omega
section
variable {pre : Nat → Nat → Bool} {its : List RItem} {r : List Nat} {wt : Watch} {ρ : Env} {H H' : Heap} {K : Env → Heap → Prop} {i d t : Nat} {b : Bool} {io : IOp} {v : Val} {g : FuncId} {f : Opd} {xs : List Opd} {va vb vs : List Val}
theorem rc_in {j : Nat} {c : Heap → Prop} {H : Heap} (h : pre j i = true) (h' : recheck pre wt i H) : recheck pre ((j, c) :: wt) i H := recheck_cons (.inl h) h'
theorem rc_now {j : Nat} {c : Heap → Prop} {H : Heap} (h : c H) (h' : recheck pre wt i H) : recheck pre ((j, c) :: wt) i H := recheck_cons (.inr h) h'
/-- A drawn region: what is made, written, appended; items that are guarded. -/
theorem RunD.al (hi : its[i]? = some (.op (some d) none io)) (h0 : io.sort = 2) (h : io.step (Opd.ev ρ) H = some (v, H')) (k : RunD P pre its r ((i, fun K' => K'[H.length]? = H'[H.length]?) :: wt) ((d, v) :: ρ) H' K) : RunD P pre its (i :: r) wt ρ H K :=
  ⟨by simp only [EvD, hi, RItem.g, guardOk, h, h0, putv]; simpa using k.out⟩
theorem RunD.st (hi : its[i]? = some (.op none none io)) (h0 : io.sort = 3) (h : io.step (Opd.ev ρ) H = some (v, H')) (hr : recheck pre wt i H') (k : RunD P pre its r wt ρ H' K) : RunD P pre its (i :: r) wt ρ H K :=
  ⟨by simp only [EvD, hi, RItem.g, guardOk, h, h0, putv]; simpa using ⟨hr, k.out⟩⟩
theorem RunD.app (hi : its[i]? = some (.op (some d) none io)) (h0 : io.sort = 3) (h : io.step (Opd.ev ρ) H = some (v, H')) (hr : recheck pre wt i H') (k : RunD P pre its r wt ((d, v) :: ρ) H' K) : RunD P pre its (i :: r) wt ρ H K :=
  ⟨by simp only [EvD, hi, RItem.g, guardOk, h, h0, putv]; simpa using ⟨hr, k.out⟩⟩
theorem RunD.op0Y (hi : its[i]? = some (.op (some d) (some (t, b)) io)) (hg : ρ.get t = .b b) (h0 : io.sort = 0) (h : io.step (Opd.ev ρ) H = some (v, H')) (k : RunD P pre its r wt ((d, v) :: ρ) H' K) : RunD P pre its (i :: r) wt ρ H K :=
  ⟨by simp only [EvD, hi, RItem.g, guardOk, hg, beq_self_eq_true, h, h0, putv]; simpa using k.out⟩
theorem RunD.op1Y (hi : its[i]? = some (.op (some d) (some (t, b)) io)) (hg : ρ.get t = .b b) (h0 : io.sort = 1) (h : io.step (Opd.ev ρ) H = some (v, H')) (k : RunD P pre its r ((i, fun K' => io.step (Opd.ev ρ) K' = some (v, K')) :: wt) ((d, v) :: ρ) H' K) : RunD P pre its (i :: r) wt ρ H K :=
  ⟨by simp only [EvD, hi, RItem.g, guardOk, hg, beq_self_eq_true, h, h0, putv]; simpa using k.out⟩
theorem RunD.callY (hi : its[i]? = some (.call (some d) (some (t, b)) f xs)) (hg : ρ.get t = .b b) (hf : f.ev ρ = .fn (.func g) va vb) (hv : va ++ xs.map (Opd.ev ρ) ++ vb = vs) (k : SoundCall P g vs H (fun v H' => recheck pre wt i H' ∧ RunD P pre its r wt ((d, v) :: ρ) H' K)) : RunD P pre its (i :: r) wt ρ H K :=
  ⟨by simp only [EvD, hi, RItem.g, guardOk, hg, beq_self_eq_true, EvItem, putv, hf, hv]; exact k.mono fun v H' q => ⟨q.1, q.2.out⟩⟩
end
end Go.Proofs.YtmdilnelogechaaDoor.Ev
