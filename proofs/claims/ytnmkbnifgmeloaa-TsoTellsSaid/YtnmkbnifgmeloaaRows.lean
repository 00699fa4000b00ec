/-
  No cell of these rows narrows 'for every input' (looked for: loops, veiled, ifaces, maps, wideKeys, modest, calm, conditions, laid).
  DERIVED. THE GIVEN ROWS OF THIS SEAT. 5 by the template 'for every input the law returns true; each argument reads behind the call as it read before'; 0 by the template 'total and deterministic' (their statements: YtnmkbnifgmeloaaTotals.lean).
  GIVEN WITH THE SEED: the statements are not yours to turn. If you find one false, say at which input.
  Laid BY PROGRAM, IN A SANDBOX (cutbox-rows.mjs): the forced cells as the released guide's own fill.sh prints them over the translation a468a307dc274065… (all of the seat's roots in one cut). By AI agents, Wed Nov 11 2026. No macro, syntax, notation, axiom, sorry.
-/
import Derived.Test.YtnmkbnifgmeloaaChecked
import GoSem.Claim
import GoSem.ClaimJoined
import GoSem.ClaimMapViews
import Derived.JoinedTies
import Derived.KernelRfl
namespace Go.Proofs.Ytnmkbnifgmeloaa
/- THE CELL 'sum', in the pinned program and in every row, IS THE sha256 OF THE DUMP (.gsa) THAT YtnmkbnifgmeloaaProg.lean LOADS. Nothing in Lean hashes anything: it is a label: what it is worth is what the hold of that sum in a sandbox is worth. -/
noncomputable def Try.pinned : Pinned := { name := "ytnmkbnifgmeloaa", sum := "a468a307dc274065f75fd9f4f87c1ed2e19aeef52317ab841cf98ece8b9718c8", checked := Try.checked }
namespace Rows
def none {H : Type} : Left H := { results := [], args := [] }

/-- 'sandglasslaw23.TsoTells': WHATEVER THE INPUT: true; the input reads as it did. -/
def tsoTellsSpec : ChangeSpec := { name := "tsoTells", fn := fun _ => fun
  | [d1, d2, d3, d4, d5, d6] => { results := [.lit (.bool true)], args := [d1, d2, d3, d4, d5, d6] }
  | _ => none }
def tsoTellsRow : OpenClaim := { program := "ytnmkbnifgmeloaa", sum := "a468a307dc274065f75fd9f4f87c1ed2e19aeef52317ab841cf98ece8b9718c8", func := "sandglass/sandglasslaw23.TsoTells", spec := "tsoTells", inPlace := ["math/bits.Add64"], unfollowed := true, recurses := true, named := ["math/bits.divideError", "math/bits.overflowError"], apart := false }
def TsoTellsSaid : Prop := tsoTellsRow.holds Try.pinned (OpenSpec.ofChange tsoTellsSpec)

/-- ITS FALSE NEIGHBOUR: 'it returns false'. Refute it at one input. -/
def tsoTellsWrong : ChangeSpec := { name := "tsoTells", fn := fun _ => fun
  | [d1, d2, d3, d4, d5, d6] => { results := [.lit (.bool false)], args := [d1, d2, d3, d4, d5, d6] }
  | _ => none }
def TsoTellsWrongFalsely : Prop := tsoTellsRow.holds Try.pinned (OpenSpec.ofChange tsoTellsWrong)

/-- 'sandglasslaw23.TsoWhole': WHATEVER THE INPUT: true; the input reads as it did. -/
def tsoWholeSpec : ChangeSpec := { name := "tsoWhole", fn := fun _ => fun
  | [d1, d2, d3] => { results := [.lit (.bool true)], args := [d1, d2, d3] }
  | _ => none }
def tsoWholeRow : OpenClaim := { program := "ytnmkbnifgmeloaa", sum := "a468a307dc274065f75fd9f4f87c1ed2e19aeef52317ab841cf98ece8b9718c8", func := "sandglass/sandglasslaw23.TsoWhole", spec := "tsoWhole", inPlace := ["math/bits.Add64"], unfollowed := true, recurses := true, named := ["math/bits.divideError", "math/bits.overflowError"], apart := false }
def TsoWholeSaid : Prop := tsoWholeRow.holds Try.pinned (OpenSpec.ofChange tsoWholeSpec)

/-- ITS FALSE NEIGHBOUR: 'it returns false'. Refute it at one input. -/
def tsoWholeWrong : ChangeSpec := { name := "tsoWhole", fn := fun _ => fun
  | [d1, d2, d3] => { results := [.lit (.bool false)], args := [d1, d2, d3] }
  | _ => none }
def TsoWholeWrongFalsely : Prop := tsoWholeRow.holds Try.pinned (OpenSpec.ofChange tsoWholeWrong)

/-- 'sandglasslaw23.TsoTrains': WHATEVER THE INPUT: true; the input reads as it did. -/
def tsoTrainsSpec : ChangeSpec := { name := "tsoTrains", fn := fun _ => fun
  | [d1, d2, d3, d4] => { results := [.lit (.bool true)], args := [d1, d2, d3, d4] }
  | _ => none }
def tsoTrainsRow : OpenClaim := { program := "ytnmkbnifgmeloaa", sum := "a468a307dc274065f75fd9f4f87c1ed2e19aeef52317ab841cf98ece8b9718c8", func := "sandglass/sandglasslaw23.TsoTrains", spec := "tsoTrains", inPlace := ["math/bits.Add64"], unfollowed := true, recurses := true, named := ["math/bits.divideError", "math/bits.overflowError"], apart := false }
def TsoTrainsSaid : Prop := tsoTrainsRow.holds Try.pinned (OpenSpec.ofChange tsoTrainsSpec)

/-- ITS FALSE NEIGHBOUR: 'it returns false'. Refute it at one input. -/
def tsoTrainsWrong : ChangeSpec := { name := "tsoTrains", fn := fun _ => fun
  | [d1, d2, d3, d4] => { results := [.lit (.bool false)], args := [d1, d2, d3, d4] }
  | _ => none }
def TsoTrainsWrongFalsely : Prop := tsoTrainsRow.holds Try.pinned (OpenSpec.ofChange tsoTrainsWrong)

/-- 'sandglasslaw23.TsoWrong': WHATEVER THE INPUT: true; the input reads as it did. -/
def tsoWrongSpec : ChangeSpec := { name := "tsoWrong", fn := fun _ => fun
  | [d1, d2, d3, d4, d5] => { results := [.lit (.bool true)], args := [d1, d2, d3, d4, d5] }
  | _ => none }
def tsoWrongRow : OpenClaim := { program := "ytnmkbnifgmeloaa", sum := "a468a307dc274065f75fd9f4f87c1ed2e19aeef52317ab841cf98ece8b9718c8", func := "sandglass/sandglasslaw23.TsoWrong", spec := "tsoWrong", inPlace := ["math/bits.Add64"], unfollowed := true, recurses := true, named := ["math/bits.divideError", "math/bits.overflowError"], apart := false }
def TsoWrongSaid : Prop := tsoWrongRow.holds Try.pinned (OpenSpec.ofChange tsoWrongSpec)

/-- ITS FALSE NEIGHBOUR: 'it returns false'. Refute it at one input. -/
def tsoWrongWrong : ChangeSpec := { name := "tsoWrong", fn := fun _ => fun
  | [d1, d2, d3, d4, d5] => { results := [.lit (.bool false)], args := [d1, d2, d3, d4, d5] }
  | _ => none }
def TsoWrongWrongFalsely : Prop := tsoWrongRow.holds Try.pinned (OpenSpec.ofChange tsoWrongWrong)

/-- 'sandglasslaw23.TsoBurst': WHATEVER THE INPUT: true; the input reads as it did. -/
def tsoBurstSpec : ChangeSpec := { name := "tsoBurst", fn := fun _ => fun
  | [d1, d2, d3, d4] => { results := [.lit (.bool true)], args := [d1, d2, d3, d4] }
  | _ => none }
def tsoBurstRow : OpenClaim := { program := "ytnmkbnifgmeloaa", sum := "a468a307dc274065f75fd9f4f87c1ed2e19aeef52317ab841cf98ece8b9718c8", func := "sandglass/sandglasslaw23.TsoBurst", spec := "tsoBurst", inPlace := ["math/bits.Add64"], unfollowed := true, recurses := true, named := ["math/bits.divideError", "math/bits.overflowError"], apart := false }
def TsoBurstSaid : Prop := tsoBurstRow.holds Try.pinned (OpenSpec.ofChange tsoBurstSpec)

/-- ITS FALSE NEIGHBOUR: 'it returns false'. Refute it at one input. -/
def tsoBurstWrong : ChangeSpec := { name := "tsoBurst", fn := fun _ => fun
  | [d1, d2, d3, d4] => { results := [.lit (.bool false)], args := [d1, d2, d3, d4] }
  | _ => none }
def TsoBurstWrongFalsely : Prop := tsoBurstRow.holds Try.pinned (OpenSpec.ofChange tsoBurstWrong)

/- THE SECOND FORM. 'bulk': how many values and letters a reading holds, each counted each time it is reached (what is shared counts as often as it is met; a slice's spare places count too). A statement '..UptoSaid' is the law's where the arguments, and the package variables that the reading takes, are together of bulk at most 1048576: NARROWER than '..Said'. Prove '..Said' where nothing that the law and all that it calls make is longer than what came in: it says more and counts as full. Else prove '..UptoSaid'. A law counts once. -/
mutual
def uptoBulk {H : Type} : DataW H → Nat
  | .lit (.string bytes) => bytes.length + 1
  | .lit _ => 1
  | .nil => 1
  | .ptr d => uptoBulk d + 1
  | .slice elems spare => uptoBulkAll elems + uptoBulkAll spare + 1
  | .agg parts => uptoBulkAll parts + 1
  | .iface _ d => uptoBulk d + 1
  | .map entries => uptoBulkEntries entries + 1
  | .held _ => 1
def uptoBulkAll {H : Type} : List (DataW H) → Nat
  | [] => 0
  | d :: r => uptoBulk d + uptoBulkAll r
def uptoBulkEntries {H : Type} : List (Lit × DataW H) → Nat
  | [] => 0
  | x :: r => uptoBulkEntry x + uptoBulkEntries r
def uptoBulkEntry {H : Type} : Lit × DataW H → Nat
  | (.string bytes, d) => bytes.length + uptoBulk d + 1
  | (_, d) => uptoBulk d + 1
 end
def uptoSmall : (H : Type) → List (DataW H) → Bool := fun _ ds => decide (uptoBulkAll ds ≤ 1048576)
def OpenSpec.upto (s : _root_.Go.ChangeSpec) : _root_.Go.OpenSpec := { _root_.Go.OpenSpec.ofChange s with cond := some uptoSmall }

/-- 'sandglasslaw23.TsoTells', WHERE WHAT IT READS IS OF BULK AT MOST 1048576: true; the input reads as it did. -/
def tsoTellsUptoRow : OpenClaim := { program := "ytnmkbnifgmeloaa", sum := "a468a307dc274065f75fd9f4f87c1ed2e19aeef52317ab841cf98ece8b9718c8", func := "sandglass/sandglasslaw23.TsoTells", spec := "tsoTells", inPlace := ["math/bits.Add64"], unfollowed := true, recurses := true, named := ["math/bits.divideError", "math/bits.overflowError"], apart := false, narrowed := true }
def TsoTellsUptoSaid : Prop := tsoTellsUptoRow.holds Try.pinned (OpenSpec.upto tsoTellsSpec)

/-- 'sandglasslaw23.TsoWhole', WHERE WHAT IT READS IS OF BULK AT MOST 1048576: true; the input reads as it did. -/
def tsoWholeUptoRow : OpenClaim := { program := "ytnmkbnifgmeloaa", sum := "a468a307dc274065f75fd9f4f87c1ed2e19aeef52317ab841cf98ece8b9718c8", func := "sandglass/sandglasslaw23.TsoWhole", spec := "tsoWhole", inPlace := ["math/bits.Add64"], unfollowed := true, recurses := true, named := ["math/bits.divideError", "math/bits.overflowError"], apart := false, narrowed := true }
def TsoWholeUptoSaid : Prop := tsoWholeUptoRow.holds Try.pinned (OpenSpec.upto tsoWholeSpec)

/-- 'sandglasslaw23.TsoTrains', WHERE WHAT IT READS IS OF BULK AT MOST 1048576: true; the input reads as it did. -/
def tsoTrainsUptoRow : OpenClaim := { program := "ytnmkbnifgmeloaa", sum := "a468a307dc274065f75fd9f4f87c1ed2e19aeef52317ab841cf98ece8b9718c8", func := "sandglass/sandglasslaw23.TsoTrains", spec := "tsoTrains", inPlace := ["math/bits.Add64"], unfollowed := true, recurses := true, named := ["math/bits.divideError", "math/bits.overflowError"], apart := false, narrowed := true }
def TsoTrainsUptoSaid : Prop := tsoTrainsUptoRow.holds Try.pinned (OpenSpec.upto tsoTrainsSpec)

/-- 'sandglasslaw23.TsoWrong', WHERE WHAT IT READS IS OF BULK AT MOST 1048576: true; the input reads as it did. -/
def tsoWrongUptoRow : OpenClaim := { program := "ytnmkbnifgmeloaa", sum := "a468a307dc274065f75fd9f4f87c1ed2e19aeef52317ab841cf98ece8b9718c8", func := "sandglass/sandglasslaw23.TsoWrong", spec := "tsoWrong", inPlace := ["math/bits.Add64"], unfollowed := true, recurses := true, named := ["math/bits.divideError", "math/bits.overflowError"], apart := false, narrowed := true }
def TsoWrongUptoSaid : Prop := tsoWrongUptoRow.holds Try.pinned (OpenSpec.upto tsoWrongSpec)

/-- 'sandglasslaw23.TsoBurst', WHERE WHAT IT READS IS OF BULK AT MOST 1048576: true; the input reads as it did. -/
def tsoBurstUptoRow : OpenClaim := { program := "ytnmkbnifgmeloaa", sum := "a468a307dc274065f75fd9f4f87c1ed2e19aeef52317ab841cf98ece8b9718c8", func := "sandglass/sandglasslaw23.TsoBurst", spec := "tsoBurst", inPlace := ["math/bits.Add64"], unfollowed := true, recurses := true, named := ["math/bits.divideError", "math/bits.overflowError"], apart := false, narrowed := true }
def TsoBurstUptoSaid : Prop := tsoBurstUptoRow.holds Try.pinned (OpenSpec.upto tsoBurstSpec)

end Rows
end Go.Proofs.Ytnmkbnifgmeloaa
