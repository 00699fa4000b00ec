/-
  No cell of these rows narrows 'for every input' (looked for: loops, veiled, ifaces, maps, wideKeys, modest, calm, conditions, laid).
  DERIVED. THE GIVEN ROWS OF THIS SEAT. 6 by the template 'for every input the law returns true; each argument reads behind the call as it read before'; 0 by the template 'total and deterministic' (their statements: YtihnjbpjikekpaaTotals.lean).
  GIVEN WITH THE SEED: the statements are not yours to turn. If you find one false, say at which input.
  Laid BY PROGRAM, IN A SANDBOX (cutbox-rows.mjs): the forced cells as the released guide's own fill.sh prints them over the translation cc452bcec87de323… (all of the seat's roots in one cut). By AI agents, Wed Nov 11 2026. No macro, syntax, notation, axiom, sorry.
-/
import Derived.Test.YtihnjbpjikekpaaChecked
import GoSem.Claim
import GoSem.ClaimJoined
import GoSem.ClaimMapViews
import Derived.JoinedTies
import Derived.KernelRfl
namespace Go.Proofs.Ytihnjbpjikekpaa
/- THE CELL 'sum', in the pinned program and in every row, IS THE sha256 OF THE DUMP (.gsa) THAT YtihnjbpjikekpaaProg.lean LOADS. Nothing in Lean hashes anything: it is a label: what it is worth is what the hold of that sum in a sandbox is worth. -/
noncomputable def Try.pinned : Pinned := { name := "ytihnjbpjikekpaa", sum := "cc452bcec87de3232d9647f05c89d4e9d4345faf0fa553cac8ee206d10764183", checked := Try.checked }
namespace Rows
def none {H : Type} : Left H := { results := [], args := [] }

/-- 'sandglasslaw01.SatTells': WHATEVER THE INPUT: true; the input reads as it did. -/
def satTellsSpec : ChangeSpec := { name := "satTells", fn := fun _ => fun
  | [d1, d2, d3] => { results := [.lit (.bool true)], args := [d1, d2, d3] }
  | _ => none }
def satTellsRow : OpenClaim := { program := "ytihnjbpjikekpaa", sum := "cc452bcec87de3232d9647f05c89d4e9d4345faf0fa553cac8ee206d10764183", func := "sandglass/sandglasslaw01.SatTells", spec := "satTells", inPlace := ["math/bits.Add64"], unfollowed := true, recurses := true, named := ["math/bits.divideError", "math/bits.overflowError"], apart := false }
def SatTellsSaid : Prop := satTellsRow.holds Try.pinned (OpenSpec.ofChange satTellsSpec)

/-- ITS FALSE NEIGHBOUR: 'it returns false'. Refute it at one input. -/
def satTellsWrong : ChangeSpec := { name := "satTells", fn := fun _ => fun
  | [d1, d2, d3] => { results := [.lit (.bool false)], args := [d1, d2, d3] }
  | _ => none }
def SatTellsWrongFalsely : Prop := satTellsRow.holds Try.pinned (OpenSpec.ofChange satTellsWrong)

/-- 'sandglasslaw01.SatExact': WHATEVER THE INPUT: true; the input reads as it did. -/
def satExactSpec : ChangeSpec := { name := "satExact", fn := fun _ => fun
  | [d1, d2, d3] => { results := [.lit (.bool true)], args := [d1, d2, d3] }
  | _ => none }
def satExactRow : OpenClaim := { program := "ytihnjbpjikekpaa", sum := "cc452bcec87de3232d9647f05c89d4e9d4345faf0fa553cac8ee206d10764183", func := "sandglass/sandglasslaw01.SatExact", spec := "satExact", inPlace := ["math/bits.Add64"], unfollowed := true, recurses := true, named := ["math/bits.divideError", "math/bits.overflowError"], apart := false }
def SatExactSaid : Prop := satExactRow.holds Try.pinned (OpenSpec.ofChange satExactSpec)

/-- ITS FALSE NEIGHBOUR: 'it returns false'. Refute it at one input. -/
def satExactWrong : ChangeSpec := { name := "satExact", fn := fun _ => fun
  | [d1, d2, d3] => { results := [.lit (.bool false)], args := [d1, d2, d3] }
  | _ => none }
def SatExactWrongFalsely : Prop := satExactRow.holds Try.pinned (OpenSpec.ofChange satExactWrong)

/-- 'sandglasslaw01.SatOrder': WHATEVER THE INPUT: true; the input reads as it did. -/
def satOrderSpec : ChangeSpec := { name := "satOrder", fn := fun _ => fun
  | [d1, d2, d3, d4, d5, d6] => { results := [.lit (.bool true)], args := [d1, d2, d3, d4, d5, d6] }
  | _ => none }
def satOrderRow : OpenClaim := { program := "ytihnjbpjikekpaa", sum := "cc452bcec87de3232d9647f05c89d4e9d4345faf0fa553cac8ee206d10764183", func := "sandglass/sandglasslaw01.SatOrder", spec := "satOrder", inPlace := ["math/bits.Add64"], unfollowed := true, recurses := true, named := ["math/bits.divideError", "math/bits.overflowError"], apart := false }
def SatOrderSaid : Prop := satOrderRow.holds Try.pinned (OpenSpec.ofChange satOrderSpec)

/-- ITS FALSE NEIGHBOUR: 'it returns false'. Refute it at one input. -/
def satOrderWrong : ChangeSpec := { name := "satOrder", fn := fun _ => fun
  | [d1, d2, d3, d4, d5, d6] => { results := [.lit (.bool false)], args := [d1, d2, d3, d4, d5, d6] }
  | _ => none }
def SatOrderWrongFalsely : Prop := satOrderRow.holds Try.pinned (OpenSpec.ofChange satOrderWrong)

/-- 'sandglasslaw01.SatJoins': WHATEVER THE INPUT: true; the input reads as it did. -/
def satJoinsSpec : ChangeSpec := { name := "satJoins", fn := fun _ => fun
  | [d1, d2, d3] => { results := [.lit (.bool true)], args := [d1, d2, d3] }
  | _ => none }
def satJoinsRow : OpenClaim := { program := "ytihnjbpjikekpaa", sum := "cc452bcec87de3232d9647f05c89d4e9d4345faf0fa553cac8ee206d10764183", func := "sandglass/sandglasslaw01.SatJoins", spec := "satJoins", inPlace := ["math/bits.Add64"], unfollowed := true, recurses := true, named := ["math/bits.divideError", "math/bits.overflowError"], apart := false }
def SatJoinsSaid : Prop := satJoinsRow.holds Try.pinned (OpenSpec.ofChange satJoinsSpec)

/-- ITS FALSE NEIGHBOUR: 'it returns false'. Refute it at one input. -/
def satJoinsWrong : ChangeSpec := { name := "satJoins", fn := fun _ => fun
  | [d1, d2, d3] => { results := [.lit (.bool false)], args := [d1, d2, d3] }
  | _ => none }
def SatJoinsWrongFalsely : Prop := satJoinsRow.holds Try.pinned (OpenSpec.ofChange satJoinsWrong)

/-- 'sandglasslaw01.SatLeast': WHATEVER THE INPUT: true; the input reads as it did. -/
def satLeastSpec : ChangeSpec := { name := "satLeast", fn := fun _ => fun
  | [d1, d2, d3] => { results := [.lit (.bool true)], args := [d1, d2, d3] }
  | _ => none }
def satLeastRow : OpenClaim := { program := "ytihnjbpjikekpaa", sum := "cc452bcec87de3232d9647f05c89d4e9d4345faf0fa553cac8ee206d10764183", func := "sandglass/sandglasslaw01.SatLeast", spec := "satLeast", inPlace := ["math/bits.Add64"], unfollowed := true, recurses := true, named := ["math/bits.divideError", "math/bits.overflowError"], apart := false }
def SatLeastSaid : Prop := satLeastRow.holds Try.pinned (OpenSpec.ofChange satLeastSpec)

/-- ITS FALSE NEIGHBOUR: 'it returns false'. Refute it at one input. -/
def satLeastWrong : ChangeSpec := { name := "satLeast", fn := fun _ => fun
  | [d1, d2, d3] => { results := [.lit (.bool false)], args := [d1, d2, d3] }
  | _ => none }
def SatLeastWrongFalsely : Prop := satLeastRow.holds Try.pinned (OpenSpec.ofChange satLeastWrong)

/-- 'sandglasslaw01.SatClamp': WHATEVER THE INPUT: true; the input reads as it did. -/
def satClampSpec : ChangeSpec := { name := "satClamp", fn := fun _ => fun
  | [d1, d2, d3] => { results := [.lit (.bool true)], args := [d1, d2, d3] }
  | _ => none }
def satClampRow : OpenClaim := { program := "ytihnjbpjikekpaa", sum := "cc452bcec87de3232d9647f05c89d4e9d4345faf0fa553cac8ee206d10764183", func := "sandglass/sandglasslaw01.SatClamp", spec := "satClamp", inPlace := ["math/bits.Add64"], unfollowed := true, recurses := true, named := ["math/bits.divideError", "math/bits.overflowError"], apart := false }
def SatClampSaid : Prop := satClampRow.holds Try.pinned (OpenSpec.ofChange satClampSpec)

/-- ITS FALSE NEIGHBOUR: 'it returns false'. Refute it at one input. -/
def satClampWrong : ChangeSpec := { name := "satClamp", fn := fun _ => fun
  | [d1, d2, d3] => { results := [.lit (.bool false)], args := [d1, d2, d3] }
  | _ => none }
def SatClampWrongFalsely : Prop := satClampRow.holds Try.pinned (OpenSpec.ofChange satClampWrong)

/- THE SECOND FORM. 'bulk': how many values and letters a reading holds, each counted each time it is reached (what is shared counts as often as it is met; a slice's spare places count too). A statement '..UptoSaid' is the law's where the arguments, and the package variables that the reading takes, are together of bulk at most 1048576: NARROWER than '..Said'. Prove '..Said' where nothing that the law and all that it calls make is longer than what came in: it says more and counts as full. Else prove '..UptoSaid'. A law counts once. -/
mutual
def uptoBulk {H : Type} : DataW H → Nat
  | .lit (.string bytes) => bytes.length + 1
  | .lit _ => 1
  | .nil => 1
  | .ptr d => uptoBulk d + 1
  | .slice elems spare => uptoBulkAll elems + uptoBulkAll spare + 1
  | .agg parts => uptoBulkAll parts + 1
  | .iface _ d => uptoBulk d + 1
  | .map entries => uptoBulkEntries entries + 1
  | .held _ => 1
def uptoBulkAll {H : Type} : List (DataW H) → Nat
  | [] => 0
  | d :: r => uptoBulk d + uptoBulkAll r
def uptoBulkEntries {H : Type} : List (Lit × DataW H) → Nat
  | [] => 0
  | x :: r => uptoBulkEntry x + uptoBulkEntries r
def uptoBulkEntry {H : Type} : Lit × DataW H → Nat
  | (.string bytes, d) => bytes.length + uptoBulk d + 1
  | (_, d) => uptoBulk d + 1
 end
def uptoSmall : (H : Type) → List (DataW H) → Bool := fun _ ds => decide (uptoBulkAll ds ≤ 1048576)
def OpenSpec.upto (s : _root_.Go.ChangeSpec) : _root_.Go.OpenSpec := { _root_.Go.OpenSpec.ofChange s with cond := some uptoSmall }

/-- 'sandglasslaw01.SatTells', WHERE WHAT IT READS IS OF BULK AT MOST 1048576: true; the input reads as it did. -/
def satTellsUptoRow : OpenClaim := { program := "ytihnjbpjikekpaa", sum := "cc452bcec87de3232d9647f05c89d4e9d4345faf0fa553cac8ee206d10764183", func := "sandglass/sandglasslaw01.SatTells", spec := "satTells", inPlace := ["math/bits.Add64"], unfollowed := true, recurses := true, named := ["math/bits.divideError", "math/bits.overflowError"], apart := false, narrowed := true }
def SatTellsUptoSaid : Prop := satTellsUptoRow.holds Try.pinned (OpenSpec.upto satTellsSpec)

/-- 'sandglasslaw01.SatExact', WHERE WHAT IT READS IS OF BULK AT MOST 1048576: true; the input reads as it did. -/
def satExactUptoRow : OpenClaim := { program := "ytihnjbpjikekpaa", sum := "cc452bcec87de3232d9647f05c89d4e9d4345faf0fa553cac8ee206d10764183", func := "sandglass/sandglasslaw01.SatExact", spec := "satExact", inPlace := ["math/bits.Add64"], unfollowed := true, recurses := true, named := ["math/bits.divideError", "math/bits.overflowError"], apart := false, narrowed := true }
def SatExactUptoSaid : Prop := satExactUptoRow.holds Try.pinned (OpenSpec.upto satExactSpec)

/-- 'sandglasslaw01.SatOrder', WHERE WHAT IT READS IS OF BULK AT MOST 1048576: true; the input reads as it did. -/
def satOrderUptoRow : OpenClaim := { program := "ytihnjbpjikekpaa", sum := "cc452bcec87de3232d9647f05c89d4e9d4345faf0fa553cac8ee206d10764183", func := "sandglass/sandglasslaw01.SatOrder", spec := "satOrder", inPlace := ["math/bits.Add64"], unfollowed := true, recurses := true, named := ["math/bits.divideError", "math/bits.overflowError"], apart := false, narrowed := true }
def SatOrderUptoSaid : Prop := satOrderUptoRow.holds Try.pinned (OpenSpec.upto satOrderSpec)

/-- 'sandglasslaw01.SatJoins', WHERE WHAT IT READS IS OF BULK AT MOST 1048576: true; the input reads as it did. -/
def satJoinsUptoRow : OpenClaim := { program := "ytihnjbpjikekpaa", sum := "cc452bcec87de3232d9647f05c89d4e9d4345faf0fa553cac8ee206d10764183", func := "sandglass/sandglasslaw01.SatJoins", spec := "satJoins", inPlace := ["math/bits.Add64"], unfollowed := true, recurses := true, named := ["math/bits.divideError", "math/bits.overflowError"], apart := false, narrowed := true }
def SatJoinsUptoSaid : Prop := satJoinsUptoRow.holds Try.pinned (OpenSpec.upto satJoinsSpec)

/-- 'sandglasslaw01.SatLeast', WHERE WHAT IT READS IS OF BULK AT MOST 1048576: true; the input reads as it did. -/
def satLeastUptoRow : OpenClaim := { program := "ytihnjbpjikekpaa", sum := "cc452bcec87de3232d9647f05c89d4e9d4345faf0fa553cac8ee206d10764183", func := "sandglass/sandglasslaw01.SatLeast", spec := "satLeast", inPlace := ["math/bits.Add64"], unfollowed := true, recurses := true, named := ["math/bits.divideError", "math/bits.overflowError"], apart := false, narrowed := true }
def SatLeastUptoSaid : Prop := satLeastUptoRow.holds Try.pinned (OpenSpec.upto satLeastSpec)

/-- 'sandglasslaw01.SatClamp', WHERE WHAT IT READS IS OF BULK AT MOST 1048576: true; the input reads as it did. -/
def satClampUptoRow : OpenClaim := { program := "ytihnjbpjikekpaa", sum := "cc452bcec87de3232d9647f05c89d4e9d4345faf0fa553cac8ee206d10764183", func := "sandglass/sandglasslaw01.SatClamp", spec := "satClamp", inPlace := ["math/bits.Add64"], unfollowed := true, recurses := true, named := ["math/bits.divideError", "math/bits.overflowError"], apart := false, narrowed := true }
def SatClampUptoSaid : Prop := satClampUptoRow.holds Try.pinned (OpenSpec.upto satClampSpec)

end Rows
end Go.Proofs.Ytihnjbpjikekpaa
