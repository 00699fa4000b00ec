/-
  No cell of these rows narrows 'for every input' (looked for: loops, veiled, ifaces, maps, wideKeys, modest, calm, conditions, laid).
  DERIVED. THE GIVEN ROWS OF THIS SEAT. 5 by the template 'for every input the law returns true; each argument reads behind the call as it read before'; 0 by the template 'total and deterministic' (their statements: YtdkcgcijppmkiaaTotals.lean).
  GIVEN WITH THE SEED: the statements are not yours to turn. If you find one false, say at which input.
  Laid BY PROGRAM, IN A SANDBOX (cutbox-rows.mjs): the forced cells as the released guide's own fill.sh prints them over the translation 1caa9349aa8fe34c… (all of the seat's roots in one cut). By AI agents, Wed Nov 11 2026. No macro, syntax, notation, axiom, sorry.
-/
import Derived.Test.YtdkcgcijppmkiaaChecked
import GoSem.Claim
import GoSem.ClaimJoined
import GoSem.ClaimMapViews
import Derived.JoinedTies
import Derived.KernelRfl
namespace Go.Proofs.Ytdkcgcijppmkiaa
/- THE CELL 'sum', in the pinned program and in every row, IS THE sha256 OF THE DUMP (.gsa) THAT YtdkcgcijppmkiaaProg.lean LOADS. Nothing in Lean hashes anything: it is a label: what it is worth is what the hold of that sum in a sandbox is worth. -/
noncomputable def Try.pinned : Pinned := { name := "ytdkcgcijppmkiaa", sum := "1caa9349aa8fe34c674ff7af8dd72146f49786e4c226a7eabdece935761a1c53", checked := Try.checked }
namespace Rows
def none {H : Type} : Left H := { results := [], args := [] }

/-- 'sandglasslaw12.FlowWaits': WHATEVER THE INPUT: true; the input reads as it did. -/
def flowWaitsSpec : ChangeSpec := { name := "flowWaits", fn := fun _ => fun
  | [d1, d2, d3, d4] => { results := [.lit (.bool true)], args := [d1, d2, d3, d4] }
  | _ => none }
def flowWaitsRow : OpenClaim := { program := "ytdkcgcijppmkiaa", sum := "1caa9349aa8fe34c674ff7af8dd72146f49786e4c226a7eabdece935761a1c53", func := "sandglass/sandglasslaw12.FlowWaits", spec := "flowWaits", inPlace := ["math/bits.Add64"], unfollowed := true, recurses := true, named := ["math/bits.divideError", "math/bits.overflowError"], apart := false }
def FlowWaitsSaid : Prop := flowWaitsRow.holds Try.pinned (OpenSpec.ofChange flowWaitsSpec)

/-- ITS FALSE NEIGHBOUR: 'it returns false'. Refute it at one input. -/
def flowWaitsWrong : ChangeSpec := { name := "flowWaits", fn := fun _ => fun
  | [d1, d2, d3, d4] => { results := [.lit (.bool false)], args := [d1, d2, d3, d4] }
  | _ => none }
def FlowWaitsWrongFalsely : Prop := flowWaitsRow.holds Try.pinned (OpenSpec.ofChange flowWaitsWrong)

/-- 'sandglasslaw12.FlowWrong': WHATEVER THE INPUT: true; the input reads as it did. -/
def flowWrongSpec : ChangeSpec := { name := "flowWrong", fn := fun _ => fun
  | [d1, d2, d3, d4, d5] => { results := [.lit (.bool true)], args := [d1, d2, d3, d4, d5] }
  | _ => none }
def flowWrongRow : OpenClaim := { program := "ytdkcgcijppmkiaa", sum := "1caa9349aa8fe34c674ff7af8dd72146f49786e4c226a7eabdece935761a1c53", func := "sandglass/sandglasslaw12.FlowWrong", spec := "flowWrong", inPlace := ["math/bits.Add64"], unfollowed := true, recurses := true, named := ["math/bits.divideError", "math/bits.overflowError"], apart := false }
def FlowWrongSaid : Prop := flowWrongRow.holds Try.pinned (OpenSpec.ofChange flowWrongSpec)

/-- ITS FALSE NEIGHBOUR: 'it returns false'. Refute it at one input. -/
def flowWrongWrong : ChangeSpec := { name := "flowWrong", fn := fun _ => fun
  | [d1, d2, d3, d4, d5] => { results := [.lit (.bool false)], args := [d1, d2, d3, d4, d5] }
  | _ => none }
def FlowWrongWrongFalsely : Prop := flowWrongRow.holds Try.pinned (OpenSpec.ofChange flowWrongWrong)

/-- 'sandglasslaw12.FlowRests': WHATEVER THE INPUT: true; the input reads as it did. -/
def flowRestsSpec : ChangeSpec := { name := "flowRests", fn := fun _ => fun
  | [d1, d2, d3, d4] => { results := [.lit (.bool true)], args := [d1, d2, d3, d4] }
  | _ => none }
def flowRestsRow : OpenClaim := { program := "ytdkcgcijppmkiaa", sum := "1caa9349aa8fe34c674ff7af8dd72146f49786e4c226a7eabdece935761a1c53", func := "sandglass/sandglasslaw12.FlowRests", spec := "flowRests", inPlace := ["math/bits.Add64"], unfollowed := true, recurses := true, named := ["math/bits.divideError", "math/bits.overflowError"], apart := false }
def FlowRestsSaid : Prop := flowRestsRow.holds Try.pinned (OpenSpec.ofChange flowRestsSpec)

/-- ITS FALSE NEIGHBOUR: 'it returns false'. Refute it at one input. -/
def flowRestsWrong : ChangeSpec := { name := "flowRests", fn := fun _ => fun
  | [d1, d2, d3, d4] => { results := [.lit (.bool false)], args := [d1, d2, d3, d4] }
  | _ => none }
def FlowRestsWrongFalsely : Prop := flowRestsRow.holds Try.pinned (OpenSpec.ofChange flowRestsWrong)

/-- 'sandglasslaw12.FlowTells': WHATEVER THE INPUT: true; the input reads as it did. -/
def flowTellsSpec : ChangeSpec := { name := "flowTells", fn := fun _ => fun
  | [d1, d2, d3, d4, d5] => { results := [.lit (.bool true)], args := [d1, d2, d3, d4, d5] }
  | _ => none }
def flowTellsRow : OpenClaim := { program := "ytdkcgcijppmkiaa", sum := "1caa9349aa8fe34c674ff7af8dd72146f49786e4c226a7eabdece935761a1c53", func := "sandglass/sandglasslaw12.FlowTells", spec := "flowTells", inPlace := ["math/bits.Add64"], unfollowed := true, recurses := true, named := ["math/bits.divideError", "math/bits.overflowError"], apart := false }
def FlowTellsSaid : Prop := flowTellsRow.holds Try.pinned (OpenSpec.ofChange flowTellsSpec)

/-- ITS FALSE NEIGHBOUR: 'it returns false'. Refute it at one input. -/
def flowTellsWrong : ChangeSpec := { name := "flowTells", fn := fun _ => fun
  | [d1, d2, d3, d4, d5] => { results := [.lit (.bool false)], args := [d1, d2, d3, d4, d5] }
  | _ => none }
def FlowTellsWrongFalsely : Prop := flowTellsRow.holds Try.pinned (OpenSpec.ofChange flowTellsWrong)

/-- 'sandglasslaw12.FlowPaced': WHATEVER THE INPUT: true; the input reads as it did. -/
def flowPacedSpec : ChangeSpec := { name := "flowPaced", fn := fun _ => fun
  | [d1, d2, d3, d4, d5, d6, d7, d8] => { results := [.lit (.bool true)], args := [d1, d2, d3, d4, d5, d6, d7, d8] }
  | _ => none }
def flowPacedRow : OpenClaim := { program := "ytdkcgcijppmkiaa", sum := "1caa9349aa8fe34c674ff7af8dd72146f49786e4c226a7eabdece935761a1c53", func := "sandglass/sandglasslaw12.FlowPaced", spec := "flowPaced", inPlace := ["math/bits.Add64"], unfollowed := true, recurses := true, named := ["math/bits.divideError", "math/bits.overflowError"], apart := false }
def FlowPacedSaid : Prop := flowPacedRow.holds Try.pinned (OpenSpec.ofChange flowPacedSpec)

/-- ITS FALSE NEIGHBOUR: 'it returns false'. Refute it at one input. -/
def flowPacedWrong : ChangeSpec := { name := "flowPaced", fn := fun _ => fun
  | [d1, d2, d3, d4, d5, d6, d7, d8] => { results := [.lit (.bool false)], args := [d1, d2, d3, d4, d5, d6, d7, d8] }
  | _ => none }
def FlowPacedWrongFalsely : Prop := flowPacedRow.holds Try.pinned (OpenSpec.ofChange flowPacedWrong)

/- THE SECOND FORM. 'bulk': how many values and letters a reading holds, each counted each time it is reached (what is shared counts as often as it is met; a slice's spare places count too). A statement '..UptoSaid' is the law's where the arguments, and the package variables that the reading takes, are together of bulk at most 1048576: NARROWER than '..Said'. Prove '..Said' where nothing that the law and all that it calls make is longer than what came in: it says more and counts as full. Else prove '..UptoSaid'. A law counts once. -/
mutual
def uptoBulk {H : Type} : DataW H → Nat
  | .lit (.string bytes) => bytes.length + 1
  | .lit _ => 1
  | .nil => 1
  | .ptr d => uptoBulk d + 1
  | .slice elems spare => uptoBulkAll elems + uptoBulkAll spare + 1
  | .agg parts => uptoBulkAll parts + 1
  | .iface _ d => uptoBulk d + 1
  | .map entries => uptoBulkEntries entries + 1
  | .held _ => 1
def uptoBulkAll {H : Type} : List (DataW H) → Nat
  | [] => 0
  | d :: r => uptoBulk d + uptoBulkAll r
def uptoBulkEntries {H : Type} : List (Lit × DataW H) → Nat
  | [] => 0
  | x :: r => uptoBulkEntry x + uptoBulkEntries r
def uptoBulkEntry {H : Type} : Lit × DataW H → Nat
  | (.string bytes, d) => bytes.length + uptoBulk d + 1
  | (_, d) => uptoBulk d + 1
 end
def uptoSmall : (H : Type) → List (DataW H) → Bool := fun _ ds => decide (uptoBulkAll ds ≤ 1048576)
def OpenSpec.upto (s : _root_.Go.ChangeSpec) : _root_.Go.OpenSpec := { _root_.Go.OpenSpec.ofChange s with cond := some uptoSmall }

/-- 'sandglasslaw12.FlowWaits', WHERE WHAT IT READS IS OF BULK AT MOST 1048576: true; the input reads as it did. -/
def flowWaitsUptoRow : OpenClaim := { program := "ytdkcgcijppmkiaa", sum := "1caa9349aa8fe34c674ff7af8dd72146f49786e4c226a7eabdece935761a1c53", func := "sandglass/sandglasslaw12.FlowWaits", spec := "flowWaits", inPlace := ["math/bits.Add64"], unfollowed := true, recurses := true, named := ["math/bits.divideError", "math/bits.overflowError"], apart := false, narrowed := true }
def FlowWaitsUptoSaid : Prop := flowWaitsUptoRow.holds Try.pinned (OpenSpec.upto flowWaitsSpec)

/-- 'sandglasslaw12.FlowWrong', WHERE WHAT IT READS IS OF BULK AT MOST 1048576: true; the input reads as it did. -/
def flowWrongUptoRow : OpenClaim := { program := "ytdkcgcijppmkiaa", sum := "1caa9349aa8fe34c674ff7af8dd72146f49786e4c226a7eabdece935761a1c53", func := "sandglass/sandglasslaw12.FlowWrong", spec := "flowWrong", inPlace := ["math/bits.Add64"], unfollowed := true, recurses := true, named := ["math/bits.divideError", "math/bits.overflowError"], apart := false, narrowed := true }
def FlowWrongUptoSaid : Prop := flowWrongUptoRow.holds Try.pinned (OpenSpec.upto flowWrongSpec)

/-- 'sandglasslaw12.FlowRests', WHERE WHAT IT READS IS OF BULK AT MOST 1048576: true; the input reads as it did. -/
def flowRestsUptoRow : OpenClaim := { program := "ytdkcgcijppmkiaa", sum := "1caa9349aa8fe34c674ff7af8dd72146f49786e4c226a7eabdece935761a1c53", func := "sandglass/sandglasslaw12.FlowRests", spec := "flowRests", inPlace := ["math/bits.Add64"], unfollowed := true, recurses := true, named := ["math/bits.divideError", "math/bits.overflowError"], apart := false, narrowed := true }
def FlowRestsUptoSaid : Prop := flowRestsUptoRow.holds Try.pinned (OpenSpec.upto flowRestsSpec)

/-- 'sandglasslaw12.FlowTells', WHERE WHAT IT READS IS OF BULK AT MOST 1048576: true; the input reads as it did. -/
def flowTellsUptoRow : OpenClaim := { program := "ytdkcgcijppmkiaa", sum := "1caa9349aa8fe34c674ff7af8dd72146f49786e4c226a7eabdece935761a1c53", func := "sandglass/sandglasslaw12.FlowTells", spec := "flowTells", inPlace := ["math/bits.Add64"], unfollowed := true, recurses := true, named := ["math/bits.divideError", "math/bits.overflowError"], apart := false, narrowed := true }
def FlowTellsUptoSaid : Prop := flowTellsUptoRow.holds Try.pinned (OpenSpec.upto flowTellsSpec)

/-- 'sandglasslaw12.FlowPaced', WHERE WHAT IT READS IS OF BULK AT MOST 1048576: true; the input reads as it did. -/
def flowPacedUptoRow : OpenClaim := { program := "ytdkcgcijppmkiaa", sum := "1caa9349aa8fe34c674ff7af8dd72146f49786e4c226a7eabdece935761a1c53", func := "sandglass/sandglasslaw12.FlowPaced", spec := "flowPaced", inPlace := ["math/bits.Add64"], unfollowed := true, recurses := true, named := ["math/bits.divideError", "math/bits.overflowError"], apart := false, narrowed := true }
def FlowPacedUptoSaid : Prop := flowPacedUptoRow.holds Try.pinned (OpenSpec.upto flowPacedSpec)

end Rows
end Go.Proofs.Ytdkcgcijppmkiaa
