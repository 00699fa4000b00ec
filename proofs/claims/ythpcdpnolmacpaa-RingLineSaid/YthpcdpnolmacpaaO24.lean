/- This text of a proof shows: the ring's functions, told by the packets that are upon it. -/
import Derived.Test.YthpcdpnolmacpaaN24
import Derived.Test.YthpcdpnolmacpaaSatFacts
set_option linter.unusedVariables false
set_option linter.unusedSimpArgs false
set_option linter.constructorNameAsVariable false
namespace Go.Proofs.Ythpcdpnolmacpaa.IR
open Go Go.Proofs.Ythpcdpnolmacpaa.Ev Go.Proofs.Ythpcdpnolmacpaa.Ext
set_option linter.unusedSimpArgs false
set_option linter.unusedVariables false
set_option maxHeartbeats 4000000
attribute [local go_sem] skipV nc0 nc1 nc2 nc3 bne_self_eq_false decide_true decide_false IOp.step Opd.ev Env.get initEnv Val.cells? Val.one List.all_cons List.all_nil Bool.and_true Bool.and_self Bool.true_and bin ints eqv Val.kindNo lenNo_s lenNo_nils lenNo_sl lenNo_nilm lenNo_m lenOf_s lenOf_nils lenOf_sl lenOf_nilm unary mxs mx2 partsOf padTo List.foldl_cons List.foldl_nil wr_nil wr_step wr_zero List.set_cons_zero List.set_cons_succ List.map_cons List.map_nil z1 z2 Nat.succ_ne_zero List.length_cons List.length_nil List.cons_append List.nil_append List.append_nil List.getElem?_cons_zero List.getElem?_cons_succ List.getElem?_nil Option.map_some Option.map_none Nat.zero_add Nat.add_zero List.drop_zero List.drop_succ_cons List.take_succ_cons List.take_zero List.take_nil and_self and_true true_and Nat.le_refl Bool.not_true Bool.not_false Option.getD_some window Val.slen bnd resV resL RV.val Bool.false_eq_true BEq.rfl Bool.true_beq Bool.false_beq beq_true beq_false mk_one ite_true ite_false eqc ceqs ceq
theorem U_sat' {x : Int} (h : 0 ≤ x) : U (sat x) := by unfold sat; split <;> exact ⟨by omega, by omega⟩
/-- A ring upon which the packets q are. -/
structure Ring (s : RS) (room : Nat) (rate : Int) (q : List (Int × Int × Int)) (clock last bytes : Int) (shut : Bool) : Prop where
  rep : Rep s q
  us : s.us
  len : s.l.length = room
  rate : s.rate = rate
  clock : s.clock = clock
  last : s.last = last
  bytes : s.bytes = bytes
  shut : s.shut = shut
theorem Rep.put {s : RS} {q : List (Int × Int × Int)} (h : Rep s q) (hf : s.many < s.l.length) (a n now : Int) : Rep (s.put a n now) (q ++ [(a, n, sat (mxi (mxi s.clock now) s.last + tm n s.rate))]) := by
  have hp := h.push hf (a, n, sat (mxi (mxi s.clock now) s.last + tm n s.rate))
  exact ⟨⟨hp.ok.f0, hp.ok.f1, hp.ok.m0, hp.ok.m1, hp.ok.len⟩, hp.many, hp.at_⟩
def endAt (clock last rate n now : Int) : Int := sat (mxi (mxi clock now) last + tm n rate)
theorem ring_new (room rate : Int) (h1 : ¬ room < 1) (h2 : ¬ room > 4096) (hr : U rate) : SoundM Try.prog 0 9 [.i .i64 room, .i .u64 rate] [] (fun v H' => v = .tup [.p 0 0, .i .i64 0] ∧ ∃ s, Ring s room.toNat rate [] 0 0 0 false ∧ H' = s.heap) := by
  refine (new_c room rate h1 h2).mono ?_
  rintro v H' ⟨rfl, rfl⟩
  refine ⟨rfl, _, ⟨new_rep _ _ (by omega) (by omega), ⟨hr, (by decide : U 0), (by decide : U 0)⟩, by simp [RS.new], rfl, rfl, rfl, rfl, rfl⟩, rfl⟩
theorem ring_put {s : RS} {room : Nat} {rate : Int} {q : List (Int × Int × Int)} {clock last bytes : Int} {shut : Bool} (hR : Ring s room rate q clock last bytes shut) (a n now : Int) (hw : U now) (h1 : ¬ n < 1) (h2 : ¬ n > 65536) (hf : q.length < room) :
    SoundM Try.prog 2 10 [.p 0 0, .i .u64 a, .i .i64 n, .i .u64 now] s.heap (fun v H' => v = .i .i64 0 ∧ ∃ s', Ring s' room rate (q ++ [(a, n, endAt clock last rate n now)]) (mxi clock now) (endAt clock last rate n now) (IntKind.u64.wrap (bytes + n)) (shut || (q.length + 1 == room)) ∧ H' = s'.heap) := by
  obtain ⟨hr, hu, rfl, rfl, rfl, rfl, rfl, rfl⟩ := hR
  have hm := hr.many
  refine (put_ok s hr.ok hu a n now hw h1 h2 (by omega)).mono ?_
  rintro v H' ⟨rfl, rfl⟩
  have hU : U (mxi (mxi s.clock now) s.last) := U_mxi (U_mxi hu.clock hw) hu.last
  have hT : U (tm n s.rate) := U_tm (by omega) hu.rate
  refine ⟨rfl, s.put a n now, ⟨hr.put (by omega) a n now, ⟨hu.rate, U_mxi hu.clock hw, U_sat' (by have := hU.1; have := hT.1; omega)⟩, by simp [RS.put], rfl, rfl, rfl, rfl, ?_⟩, rfl⟩
  show (s.shut || (s.many + 1 == (s.l.length : Int))) = (s.shut || (q.length + 1 == s.l.length))
  congr 1
  rw [hm, Bool.eq_iff_iff]
  simp only [beq_iff_eq]
  omega
theorem ring_full {s : RS} {room : Nat} {rate : Int} {q : List (Int × Int × Int)} {clock last bytes : Int} {shut : Bool} (hR : Ring s room rate q clock last bytes shut) (a n now : Int) (h1 : ¬ n < 1) (h2 : ¬ n > 65536) (hf : q.length = room) :
    SoundM Try.prog 2 10 [.p 0 0, .i .u64 a, .i .i64 n, .i .u64 now] s.heap (fun v H' => v = .i .i64 4 ∧ H' = s.heap) :=
  put_full s a n now h1 h2 (by rw [hR.rep.many, hR.len, hf])
theorem ring_done {s : RS} {room : Nat} {rate : Int} {q : List (Int × Int × Int)} {clock last bytes : Int} {shut : Bool} (hR : Ring s room rate q clock last bytes shut) (now : Int) (hw : U now) :
    SoundM Try.prog 2 14 [.p 0 0, .i .u64 now] s.heap (fun v H' => ∃ s', Ring s' room rate (left (mxi clock now) q) (mxi clock now) last (subB bytes (ended (mxi clock now) q)) (if ((left (mxi clock now) q).length : Int) ≤ room / 2 then false else shut) ∧
      v = outV ((ended (mxi clock now) q).map (·.1)) ∧ H' = s'.heap ++ outH ((ended (mxi clock now) q).map (·.1))) := by
  obtain ⟨hr, hu, rfl, rfl, rfl, rfl, rfl, rfl⟩ := hR
  refine (done_c s q now hr).mono ?_
  rintro v H' ⟨s', a1, a2, a3, a4, a5, a6, a7, a8, a9⟩
  exact ⟨s', ⟨a1, ⟨a3 ▸ hu.rate, a4 ▸ U_mxi hu.clock hw, a5 ▸ hu.last⟩, a2, a3, a4, a5, a6, a7⟩, a8, a9⟩
theorem ring_next {s : RS} {room : Nat} {rate : Int} {q : List (Int × Int × Int)} {clock last bytes : Int} {shut : Bool} (hR : Ring s room rate q clock last bytes shut) :
    SoundM Try.prog 2 13 [.p 0 0] s.heap (fun v H' => v = .tup [.i .u64 ((q.head?.map (·.2.2)).getD 0), .b (!q.isEmpty)] ∧ H' = s.heap) := by
  cases q with
  | nil => exact next0_c s hR.rep.ok hR.rep.many
  | cons x q => exact next_c s hR.rep.ok x hR.rep.head (by rw [hR.rep.many, List.length_cons]; omega)
theorem ring_used {s : RS} {room : Nat} {rate : Int} {q : List (Int × Int × Int)} {clock last bytes : Int} {shut : Bool} (hR : Ring s room rate q clock last bytes shut) :
    SoundM Try.prog 2 15 [.p 0 0] s.heap (fun v H' => v = .i .i64 q.length ∧ H' = s.heap) := by
  have := used_c s
  rwa [hR.rep.many] at this
theorem ring_bytes {s : RS} {room : Nat} {rate : Int} {q : List (Int × Int × Int)} {clock last bytes : Int} {shut : Bool} (hR : Ring s room rate q clock last bytes shut) :
    SoundM Try.prog 2 18 [.p 0 0] s.heap (fun v H' => v = .i .u64 bytes ∧ H' = s.heap) := by
  have := bytes_c s
  rwa [hR.bytes] at this
theorem ring_open {s : RS} {room : Nat} {rate : Int} {q : List (Int × Int × Int)} {clock last bytes : Int} {shut : Bool} (hR : Ring s room rate q clock last bytes shut) :
    SoundM Try.prog 2 19 [.p 0 0] s.heap (fun v H' => v = .b (!shut) ∧ H' = s.heap) := by
  have := open_c s
  rwa [hR.shut] at this
theorem ring_room {s : RS} {room : Nat} {rate : Int} {q : List (Int × Int × Int)} {clock last bytes : Int} {shut : Bool} (hR : Ring s room rate q clock last bytes shut) :
    SoundM Try.prog 2 24 [.p 0 0] s.heap (fun v H' => v = .i .i64 room ∧ H' = s.heap) := by
  have := room_c s
  rwa [hR.len] at this
end Go.Proofs.Ythpcdpnolmacpaa.IR
