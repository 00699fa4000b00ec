/-
  No cell of these rows narrows 'for every input' (looked for: loops, veiled, ifaces, maps, wideKeys, modest, calm, conditions, laid).
  DERIVED. THE GIVEN ROWS OF THIS SEAT. 6 by the template 'for every input the law returns true; each argument reads behind the call as it read before'; 0 by the template 'total and deterministic' (their statements: YtjahkgfihdngkaaTotals.lean).
  GIVEN WITH THE SEED: the statements are not yours to turn. If you find one false, say at which input.
  Laid BY PROGRAM, IN A SANDBOX (cutbox-rows.mjs): the forced cells as the released guide's own fill.sh prints them over the translation 3d3c936c6e8acf08… (all of the seat's roots in one cut). By AI agents, Wed Nov 11 2026. No macro, syntax, notation, axiom, sorry.
-/
import Derived.Test.YtjahkgfihdngkaaChecked
import GoSem.Claim
import GoSem.ClaimJoined
import GoSem.ClaimMapViews
import Derived.JoinedTies
import Derived.KernelRfl
namespace Go.Proofs.Ytjahkgfihdngkaa
/- THE CELL 'sum', in the pinned program and in every row, IS THE sha256 OF THE DUMP (.gsa) THAT YtjahkgfihdngkaaProg.lean LOADS. Nothing in Lean hashes anything: it is a label: what it is worth is what the hold of that sum in a sandbox is worth. -/
noncomputable def Try.pinned : Pinned := { name := "ytjahkgfihdngkaa", sum := "3d3c936c6e8acf08cfde3736c4bcb1e4f0c4a84af38fb39eb0a78e926d691123", checked := Try.checked }
namespace Rows
def none {H : Type} : Left H := { results := [], args := [] }

/-- 'sandglasslaw11.FifoTells': WHATEVER THE INPUT: true; the input reads as it did. -/
def fifoTellsSpec : ChangeSpec := { name := "fifoTells", fn := fun _ => fun
  | [d1, d2] => { results := [.lit (.bool true)], args := [d1, d2] }
  | _ => none }
def fifoTellsRow : OpenClaim := { program := "ytjahkgfihdngkaa", sum := "3d3c936c6e8acf08cfde3736c4bcb1e4f0c4a84af38fb39eb0a78e926d691123", func := "sandglass/sandglasslaw11.FifoTells", spec := "fifoTells", unfollowed := true, recurses := true, plainKeys := false, apart := false }
def FifoTellsSaid : Prop := fifoTellsRow.holds Try.pinned (OpenSpec.ofChange fifoTellsSpec)

/-- ITS FALSE NEIGHBOUR: 'it returns false'. Refute it at one input. -/
def fifoTellsWrong : ChangeSpec := { name := "fifoTells", fn := fun _ => fun
  | [d1, d2] => { results := [.lit (.bool false)], args := [d1, d2] }
  | _ => none }
def FifoTellsWrongFalsely : Prop := fifoTellsRow.holds Try.pinned (OpenSpec.ofChange fifoTellsWrong)

/-- 'sandglasslaw11.FifoOrder': WHATEVER THE INPUT: true; the input reads as it did. -/
def fifoOrderSpec : ChangeSpec := { name := "fifoOrder", fn := fun _ => fun
  | [d1, d2] => { results := [.lit (.bool true)], args := [d1, d2] }
  | _ => none }
def fifoOrderRow : OpenClaim := { program := "ytjahkgfihdngkaa", sum := "3d3c936c6e8acf08cfde3736c4bcb1e4f0c4a84af38fb39eb0a78e926d691123", func := "sandglass/sandglasslaw11.FifoOrder", spec := "fifoOrder", unfollowed := true, recurses := true, plainKeys := false, apart := false }
def FifoOrderSaid : Prop := fifoOrderRow.holds Try.pinned (OpenSpec.ofChange fifoOrderSpec)

/-- ITS FALSE NEIGHBOUR: 'it returns false'. Refute it at one input. -/
def fifoOrderWrong : ChangeSpec := { name := "fifoOrder", fn := fun _ => fun
  | [d1, d2] => { results := [.lit (.bool false)], args := [d1, d2] }
  | _ => none }
def FifoOrderWrongFalsely : Prop := fifoOrderRow.holds Try.pinned (OpenSpec.ofChange fifoOrderWrong)

/-- 'sandglasslaw11.FifoTurn': WHATEVER THE INPUT: true; the input reads as it did. -/
def fifoTurnSpec : ChangeSpec := { name := "fifoTurn", fn := fun _ => fun
  | [d1, d2, d3] => { results := [.lit (.bool true)], args := [d1, d2, d3] }
  | _ => none }
def fifoTurnRow : OpenClaim := { program := "ytjahkgfihdngkaa", sum := "3d3c936c6e8acf08cfde3736c4bcb1e4f0c4a84af38fb39eb0a78e926d691123", func := "sandglass/sandglasslaw11.FifoTurn", spec := "fifoTurn", unfollowed := true, recurses := true, plainKeys := false, apart := false }
def FifoTurnSaid : Prop := fifoTurnRow.holds Try.pinned (OpenSpec.ofChange fifoTurnSpec)

/-- ITS FALSE NEIGHBOUR: 'it returns false'. Refute it at one input. -/
def fifoTurnWrong : ChangeSpec := { name := "fifoTurn", fn := fun _ => fun
  | [d1, d2, d3] => { results := [.lit (.bool false)], args := [d1, d2, d3] }
  | _ => none }
def FifoTurnWrongFalsely : Prop := fifoTurnRow.holds Try.pinned (OpenSpec.ofChange fifoTurnWrong)

/-- 'sandglasslaw11.FifoHead': WHATEVER THE INPUT: true; the input reads as it did. -/
def fifoHeadSpec : ChangeSpec := { name := "fifoHead", fn := fun _ => fun
  | [d1, d2, d3] => { results := [.lit (.bool true)], args := [d1, d2, d3] }
  | _ => none }
def fifoHeadRow : OpenClaim := { program := "ytjahkgfihdngkaa", sum := "3d3c936c6e8acf08cfde3736c4bcb1e4f0c4a84af38fb39eb0a78e926d691123", func := "sandglass/sandglasslaw11.FifoHead", spec := "fifoHead", unfollowed := true, recurses := true, plainKeys := false, apart := false }
def FifoHeadSaid : Prop := fifoHeadRow.holds Try.pinned (OpenSpec.ofChange fifoHeadSpec)

/-- ITS FALSE NEIGHBOUR: 'it returns false'. Refute it at one input. -/
def fifoHeadWrong : ChangeSpec := { name := "fifoHead", fn := fun _ => fun
  | [d1, d2, d3] => { results := [.lit (.bool false)], args := [d1, d2, d3] }
  | _ => none }
def FifoHeadWrongFalsely : Prop := fifoHeadRow.holds Try.pinned (OpenSpec.ofChange fifoHeadWrong)

/-- 'sandglasslaw11.FifoRoom': WHATEVER THE INPUT: true; the input reads as it did. -/
def fifoRoomSpec : ChangeSpec := { name := "fifoRoom", fn := fun _ => fun
  | [d1, d2] => { results := [.lit (.bool true)], args := [d1, d2] }
  | _ => none }
def fifoRoomRow : OpenClaim := { program := "ytjahkgfihdngkaa", sum := "3d3c936c6e8acf08cfde3736c4bcb1e4f0c4a84af38fb39eb0a78e926d691123", func := "sandglass/sandglasslaw11.FifoRoom", spec := "fifoRoom", unfollowed := true, recurses := true, plainKeys := false, apart := false }
def FifoRoomSaid : Prop := fifoRoomRow.holds Try.pinned (OpenSpec.ofChange fifoRoomSpec)

/-- ITS FALSE NEIGHBOUR: 'it returns false'. Refute it at one input. -/
def fifoRoomWrong : ChangeSpec := { name := "fifoRoom", fn := fun _ => fun
  | [d1, d2] => { results := [.lit (.bool false)], args := [d1, d2] }
  | _ => none }
def FifoRoomWrongFalsely : Prop := fifoRoomRow.holds Try.pinned (OpenSpec.ofChange fifoRoomWrong)

/-- 'sandglasslaw11.FifoNone': WHATEVER THE INPUT: true; the input reads as it did. -/
def fifoNoneSpec : ChangeSpec := { name := "fifoNone", fn := fun _ => fun
  | [d1, d2] => { results := [.lit (.bool true)], args := [d1, d2] }
  | _ => none }
def fifoNoneRow : OpenClaim := { program := "ytjahkgfihdngkaa", sum := "3d3c936c6e8acf08cfde3736c4bcb1e4f0c4a84af38fb39eb0a78e926d691123", func := "sandglass/sandglasslaw11.FifoNone", spec := "fifoNone", unfollowed := true, recurses := true, plainKeys := false, apart := false }
def FifoNoneSaid : Prop := fifoNoneRow.holds Try.pinned (OpenSpec.ofChange fifoNoneSpec)

/-- ITS FALSE NEIGHBOUR: 'it returns false'. Refute it at one input. -/
def fifoNoneWrong : ChangeSpec := { name := "fifoNone", fn := fun _ => fun
  | [d1, d2] => { results := [.lit (.bool false)], args := [d1, d2] }
  | _ => none }
def FifoNoneWrongFalsely : Prop := fifoNoneRow.holds Try.pinned (OpenSpec.ofChange fifoNoneWrong)

/- THE SECOND FORM. 'bulk': how many values and letters a reading holds, each counted each time it is reached (what is shared counts as often as it is met; a slice's spare places count too). A statement '..UptoSaid' is the law's where the arguments, and the package variables that the reading takes, are together of bulk at most 1048576: NARROWER than '..Said'. Prove '..Said' where nothing that the law and all that it calls make is longer than what came in: it says more and counts as full. Else prove '..UptoSaid'. A law counts once. -/
mutual
def uptoBulk {H : Type} : DataW H → Nat
  | .lit (.string bytes) => bytes.length + 1
  | .lit _ => 1
  | .nil => 1
  | .ptr d => uptoBulk d + 1
  | .slice elems spare => uptoBulkAll elems + uptoBulkAll spare + 1
  | .agg parts => uptoBulkAll parts + 1
  | .iface _ d => uptoBulk d + 1
  | .map entries => uptoBulkEntries entries + 1
  | .held _ => 1
def uptoBulkAll {H : Type} : List (DataW H) → Nat
  | [] => 0
  | d :: r => uptoBulk d + uptoBulkAll r
def uptoBulkEntries {H : Type} : List (Lit × DataW H) → Nat
  | [] => 0
  | x :: r => uptoBulkEntry x + uptoBulkEntries r
def uptoBulkEntry {H : Type} : Lit × DataW H → Nat
  | (.string bytes, d) => bytes.length + uptoBulk d + 1
  | (_, d) => uptoBulk d + 1
 end
def uptoSmall : (H : Type) → List (DataW H) → Bool := fun _ ds => decide (uptoBulkAll ds ≤ 1048576)
def OpenSpec.upto (s : _root_.Go.ChangeSpec) : _root_.Go.OpenSpec := { _root_.Go.OpenSpec.ofChange s with cond := some uptoSmall }

/-- 'sandglasslaw11.FifoTells', WHERE WHAT IT READS IS OF BULK AT MOST 1048576: true; the input reads as it did. -/
def fifoTellsUptoRow : OpenClaim := { program := "ytjahkgfihdngkaa", sum := "3d3c936c6e8acf08cfde3736c4bcb1e4f0c4a84af38fb39eb0a78e926d691123", func := "sandglass/sandglasslaw11.FifoTells", spec := "fifoTells", unfollowed := true, recurses := true, plainKeys := false, apart := false, narrowed := true }
def FifoTellsUptoSaid : Prop := fifoTellsUptoRow.holds Try.pinned (OpenSpec.upto fifoTellsSpec)

/-- 'sandglasslaw11.FifoOrder', WHERE WHAT IT READS IS OF BULK AT MOST 1048576: true; the input reads as it did. -/
def fifoOrderUptoRow : OpenClaim := { program := "ytjahkgfihdngkaa", sum := "3d3c936c6e8acf08cfde3736c4bcb1e4f0c4a84af38fb39eb0a78e926d691123", func := "sandglass/sandglasslaw11.FifoOrder", spec := "fifoOrder", unfollowed := true, recurses := true, plainKeys := false, apart := false, narrowed := true }
def FifoOrderUptoSaid : Prop := fifoOrderUptoRow.holds Try.pinned (OpenSpec.upto fifoOrderSpec)

/-- 'sandglasslaw11.FifoTurn', WHERE WHAT IT READS IS OF BULK AT MOST 1048576: true; the input reads as it did. -/
def fifoTurnUptoRow : OpenClaim := { program := "ytjahkgfihdngkaa", sum := "3d3c936c6e8acf08cfde3736c4bcb1e4f0c4a84af38fb39eb0a78e926d691123", func := "sandglass/sandglasslaw11.FifoTurn", spec := "fifoTurn", unfollowed := true, recurses := true, plainKeys := false, apart := false, narrowed := true }
def FifoTurnUptoSaid : Prop := fifoTurnUptoRow.holds Try.pinned (OpenSpec.upto fifoTurnSpec)

/-- 'sandglasslaw11.FifoHead', WHERE WHAT IT READS IS OF BULK AT MOST 1048576: true; the input reads as it did. -/
def fifoHeadUptoRow : OpenClaim := { program := "ytjahkgfihdngkaa", sum := "3d3c936c6e8acf08cfde3736c4bcb1e4f0c4a84af38fb39eb0a78e926d691123", func := "sandglass/sandglasslaw11.FifoHead", spec := "fifoHead", unfollowed := true, recurses := true, plainKeys := false, apart := false, narrowed := true }
def FifoHeadUptoSaid : Prop := fifoHeadUptoRow.holds Try.pinned (OpenSpec.upto fifoHeadSpec)

/-- 'sandglasslaw11.FifoRoom', WHERE WHAT IT READS IS OF BULK AT MOST 1048576: true; the input reads as it did. -/
def fifoRoomUptoRow : OpenClaim := { program := "ytjahkgfihdngkaa", sum := "3d3c936c6e8acf08cfde3736c4bcb1e4f0c4a84af38fb39eb0a78e926d691123", func := "sandglass/sandglasslaw11.FifoRoom", spec := "fifoRoom", unfollowed := true, recurses := true, plainKeys := false, apart := false, narrowed := true }
def FifoRoomUptoSaid : Prop := fifoRoomUptoRow.holds Try.pinned (OpenSpec.upto fifoRoomSpec)

/-- 'sandglasslaw11.FifoNone', WHERE WHAT IT READS IS OF BULK AT MOST 1048576: true; the input reads as it did. -/
def fifoNoneUptoRow : OpenClaim := { program := "ytjahkgfihdngkaa", sum := "3d3c936c6e8acf08cfde3736c4bcb1e4f0c4a84af38fb39eb0a78e926d691123", func := "sandglass/sandglasslaw11.FifoNone", spec := "fifoNone", unfollowed := true, recurses := true, plainKeys := false, apart := false, narrowed := true }
def FifoNoneUptoSaid : Prop := fifoNoneUptoRow.holds Try.pinned (OpenSpec.upto fifoNoneSpec)

end Rows
end Go.Proofs.Ytjahkgfihdngkaa
