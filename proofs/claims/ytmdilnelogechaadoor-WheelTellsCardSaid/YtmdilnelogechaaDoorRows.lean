/-
  NARROWER THAN 'FOR EVERY INPUT', by the rows' own cells (each row's printed sentence says how): WheelDue: laid · WheelNext: laid · WheelTells: laid · WheelJump: laid · WheelHeld: laid · WheelNone: laid.
  DERIVED. THE GIVEN ROWS OF THIS SEAT. 6 by the template 'for every input the law returns true; each argument reads behind the call as it read before'; 0 by the template 'total and deterministic' (their statements: YtmdilnelogechaaDoorTotals.lean).
  GIVEN WITH THE SEED: the statements are not yours to turn. If you find one false, say at which input.
  Laid BY PROGRAM, IN A SANDBOX (cutbox-rows.mjs): the forced cells as the released guide's own fill.sh prints them over the translation 271a8857e76a7777… (all of the seat's roots in one cut). By AI agents, Wed Nov 11 2026. No macro, syntax, notation, axiom, sorry.
-/
import Derived.Test.YtmdilnelogechaaDoorChecked
import GoSem.Claim
import GoSem.ClaimJoined
import GoSem.ClaimMapViews
import Derived.JoinedTies
import Derived.KernelRfl
namespace Go.Proofs.YtmdilnelogechaaDoor
/- THE CELL 'sum', in the pinned program and in every row, IS THE sha256 OF THE DUMP (.gsa) THAT YtmdilnelogechaaDoorProg.lean LOADS. Nothing in Lean hashes anything: it is a label: what it is worth is what the hold of that sum in a sandbox is worth. -/
noncomputable def Tryd.pinned : Pinned := { name := "ytmdilnelogechaadoor", sum := "271a8857e76a7777a52c3fb92c448fa5183c99d15e3dc41f9744c67b34739ff8", checked := Tryd.checked }
namespace Rows
def none {H : Type} : Left H := { results := [], args := [] }

/- WHAT THE LISTED PACKAGE-LEVEL VARIABLES READ AS WHEN THE CALL BEGINS. Each datum BY PROGRAM (the guide's laid-datum.mjs) off the statement by which the dump's own 'gosem.cut.vars' lays the variable. In a bare row this is a premise. The card (YtmdilnelogechaaDoorCards.lean) ties it to the program's text. -/
def laid_math_bits_deBruijn64tab {H : Type} : DataW H := .agg [.lit (.int .u8 0), .lit (.int .u8 1), .lit (.int .u8 56), .lit (.int .u8 2), .lit (.int .u8 57), .lit (.int .u8 49), .lit (.int .u8 28), .lit (.int .u8 3), .lit (.int .u8 61), .lit (.int .u8 58), .lit (.int .u8 42), .lit (.int .u8 50), .lit (.int .u8 38), .lit (.int .u8 29), .lit (.int .u8 17), .lit (.int .u8 4), .lit (.int .u8 62), .lit (.int .u8 47), .lit (.int .u8 59), .lit (.int .u8 36), .lit (.int .u8 45), .lit (.int .u8 43), .lit (.int .u8 51), .lit (.int .u8 22), .lit (.int .u8 53), .lit (.int .u8 39), .lit (.int .u8 33), .lit (.int .u8 30), .lit (.int .u8 24), .lit (.int .u8 18), .lit (.int .u8 12), .lit (.int .u8 5), .lit (.int .u8 63), .lit (.int .u8 55), .lit (.int .u8 48), .lit (.int .u8 27), .lit (.int .u8 60), .lit (.int .u8 41), .lit (.int .u8 37), .lit (.int .u8 16), .lit (.int .u8 46), .lit (.int .u8 35), .lit (.int .u8 44), .lit (.int .u8 21), .lit (.int .u8 52), .lit (.int .u8 32), .lit (.int .u8 23), .lit (.int .u8 11), .lit (.int .u8 54), .lit (.int .u8 26), .lit (.int .u8 40), .lit (.int .u8 15), .lit (.int .u8 34), .lit (.int .u8 20), .lit (.int .u8 31), .lit (.int .u8 10), .lit (.int .u8 25), .lit (.int .u8 14), .lit (.int .u8 19), .lit (.int .u8 9), .lit (.int .u8 13), .lit (.int .u8 8), .lit (.int .u8 7), .lit (.int .u8 6)]

/-- 'sandglasslaw09.WheelDue': WHATEVER THE INPUT: true; the input reads as it did. -/
def wheelDueSpec : ChangeSpec := { name := "wheelDue", fn := fun _ => fun
  | [d1, d2, d3] => { results := [.lit (.bool true)], args := [d1, d2, d3] }
  | _ => none }
def wheelDueRow : OpenClaim := { program := "ytmdilnelogechaadoor", sum := "271a8857e76a7777a52c3fb92c448fa5183c99d15e3dc41f9744c67b34739ff8", func := "sandglass/sandglasslaw09.WheelDue", spec := "wheelDue", inPlace := ["math/bits.Add64"], unfollowed := true, recurses := true, named := ["math/bits.divideError", "math/bits.overflowError", "math/bits.deBruijn64tab"], apart := false, laid := [("math/bits.deBruijn64tab", laid_math_bits_deBruijn64tab)] }
def WheelDueSaid : Prop := wheelDueRow.holds Tryd.pinned (OpenSpec.ofChange wheelDueSpec)

/-- ITS FALSE NEIGHBOUR: 'it returns false'. Refute it at one input. -/
def wheelDueWrong : ChangeSpec := { name := "wheelDue", fn := fun _ => fun
  | [d1, d2, d3] => { results := [.lit (.bool false)], args := [d1, d2, d3] }
  | _ => none }
def WheelDueWrongFalsely : Prop := wheelDueRow.holds Tryd.pinned (OpenSpec.ofChange wheelDueWrong)

/-- 'sandglasslaw09.WheelNext': WHATEVER THE INPUT: true; the input reads as it did. -/
def wheelNextSpec : ChangeSpec := { name := "wheelNext", fn := fun _ => fun
  | [d1, d2, d3, d4] => { results := [.lit (.bool true)], args := [d1, d2, d3, d4] }
  | _ => none }
def wheelNextRow : OpenClaim := { program := "ytmdilnelogechaadoor", sum := "271a8857e76a7777a52c3fb92c448fa5183c99d15e3dc41f9744c67b34739ff8", func := "sandglass/sandglasslaw09.WheelNext", spec := "wheelNext", inPlace := ["math/bits.Add64"], unfollowed := true, recurses := true, named := ["math/bits.divideError", "math/bits.overflowError", "math/bits.deBruijn64tab"], apart := false, laid := [("math/bits.deBruijn64tab", laid_math_bits_deBruijn64tab)] }
def WheelNextSaid : Prop := wheelNextRow.holds Tryd.pinned (OpenSpec.ofChange wheelNextSpec)

/-- ITS FALSE NEIGHBOUR: 'it returns false'. Refute it at one input. -/
def wheelNextWrong : ChangeSpec := { name := "wheelNext", fn := fun _ => fun
  | [d1, d2, d3, d4] => { results := [.lit (.bool false)], args := [d1, d2, d3, d4] }
  | _ => none }
def WheelNextWrongFalsely : Prop := wheelNextRow.holds Tryd.pinned (OpenSpec.ofChange wheelNextWrong)

/-- 'sandglasslaw09.WheelTells': WHATEVER THE INPUT: true; the input reads as it did. -/
def wheelTellsSpec : ChangeSpec := { name := "wheelTells", fn := fun _ => fun
  | [d1, d2, d3, d4] => { results := [.lit (.bool true)], args := [d1, d2, d3, d4] }
  | _ => none }
def wheelTellsRow : OpenClaim := { program := "ytmdilnelogechaadoor", sum := "271a8857e76a7777a52c3fb92c448fa5183c99d15e3dc41f9744c67b34739ff8", func := "sandglass/sandglasslaw09.WheelTells", spec := "wheelTells", inPlace := ["math/bits.Add64"], unfollowed := true, recurses := true, named := ["math/bits.divideError", "math/bits.overflowError", "math/bits.deBruijn64tab"], apart := false, laid := [("math/bits.deBruijn64tab", laid_math_bits_deBruijn64tab)] }
def WheelTellsSaid : Prop := wheelTellsRow.holds Tryd.pinned (OpenSpec.ofChange wheelTellsSpec)

/-- ITS FALSE NEIGHBOUR: 'it returns false'. Refute it at one input. -/
def wheelTellsWrong : ChangeSpec := { name := "wheelTells", fn := fun _ => fun
  | [d1, d2, d3, d4] => { results := [.lit (.bool false)], args := [d1, d2, d3, d4] }
  | _ => none }
def WheelTellsWrongFalsely : Prop := wheelTellsRow.holds Tryd.pinned (OpenSpec.ofChange wheelTellsWrong)

/-- 'sandglasslaw09.WheelJump': WHATEVER THE INPUT: true; the input reads as it did. -/
def wheelJumpSpec : ChangeSpec := { name := "wheelJump", fn := fun _ => fun
  | [d1, d2, d3, d4] => { results := [.lit (.bool true)], args := [d1, d2, d3, d4] }
  | _ => none }
def wheelJumpRow : OpenClaim := { program := "ytmdilnelogechaadoor", sum := "271a8857e76a7777a52c3fb92c448fa5183c99d15e3dc41f9744c67b34739ff8", func := "sandglass/sandglasslaw09.WheelJump", spec := "wheelJump", inPlace := ["math/bits.Add64"], unfollowed := true, recurses := true, named := ["math/bits.divideError", "math/bits.overflowError", "math/bits.deBruijn64tab"], apart := false, laid := [("math/bits.deBruijn64tab", laid_math_bits_deBruijn64tab)] }
def WheelJumpSaid : Prop := wheelJumpRow.holds Tryd.pinned (OpenSpec.ofChange wheelJumpSpec)

/-- ITS FALSE NEIGHBOUR: 'it returns false'. Refute it at one input. -/
def wheelJumpWrong : ChangeSpec := { name := "wheelJump", fn := fun _ => fun
  | [d1, d2, d3, d4] => { results := [.lit (.bool false)], args := [d1, d2, d3, d4] }
  | _ => none }
def WheelJumpWrongFalsely : Prop := wheelJumpRow.holds Tryd.pinned (OpenSpec.ofChange wheelJumpWrong)

/-- 'sandglasslaw09.WheelHeld': WHATEVER THE INPUT: true; the input reads as it did. -/
def wheelHeldSpec : ChangeSpec := { name := "wheelHeld", fn := fun _ => fun
  | [d1, d2, d3] => { results := [.lit (.bool true)], args := [d1, d2, d3] }
  | _ => none }
def wheelHeldRow : OpenClaim := { program := "ytmdilnelogechaadoor", sum := "271a8857e76a7777a52c3fb92c448fa5183c99d15e3dc41f9744c67b34739ff8", func := "sandglass/sandglasslaw09.WheelHeld", spec := "wheelHeld", inPlace := ["math/bits.Add64"], unfollowed := true, recurses := true, named := ["math/bits.divideError", "math/bits.overflowError", "math/bits.deBruijn64tab"], apart := false, laid := [("math/bits.deBruijn64tab", laid_math_bits_deBruijn64tab)] }
def WheelHeldSaid : Prop := wheelHeldRow.holds Tryd.pinned (OpenSpec.ofChange wheelHeldSpec)

/-- ITS FALSE NEIGHBOUR: 'it returns false'. Refute it at one input. -/
def wheelHeldWrong : ChangeSpec := { name := "wheelHeld", fn := fun _ => fun
  | [d1, d2, d3] => { results := [.lit (.bool false)], args := [d1, d2, d3] }
  | _ => none }
def WheelHeldWrongFalsely : Prop := wheelHeldRow.holds Tryd.pinned (OpenSpec.ofChange wheelHeldWrong)

/-- 'sandglasslaw09.WheelNone': WHATEVER THE INPUT: true; the input reads as it did. -/
def wheelNoneSpec : ChangeSpec := { name := "wheelNone", fn := fun _ => fun
  | [d1, d2] => { results := [.lit (.bool true)], args := [d1, d2] }
  | _ => none }
def wheelNoneRow : OpenClaim := { program := "ytmdilnelogechaadoor", sum := "271a8857e76a7777a52c3fb92c448fa5183c99d15e3dc41f9744c67b34739ff8", func := "sandglass/sandglasslaw09.WheelNone", spec := "wheelNone", inPlace := ["math/bits.Add64"], unfollowed := true, recurses := true, named := ["math/bits.deBruijn64tab", "math/bits.divideError", "math/bits.overflowError"], apart := false, laid := [("math/bits.deBruijn64tab", laid_math_bits_deBruijn64tab)] }
def WheelNoneSaid : Prop := wheelNoneRow.holds Tryd.pinned (OpenSpec.ofChange wheelNoneSpec)

/-- ITS FALSE NEIGHBOUR: 'it returns false'. Refute it at one input. -/
def wheelNoneWrong : ChangeSpec := { name := "wheelNone", fn := fun _ => fun
  | [d1, d2] => { results := [.lit (.bool false)], args := [d1, d2] }
  | _ => none }
def WheelNoneWrongFalsely : Prop := wheelNoneRow.holds Tryd.pinned (OpenSpec.ofChange wheelNoneWrong)

/- THE SECOND FORM. 'bulk': how many values and letters a reading holds, each counted each time it is reached (what is shared counts as often as it is met; a slice's spare places count too). A statement '..UptoSaid' is the law's where the arguments, and the package variables that the reading takes, are together of bulk at most 1048576: NARROWER than '..Said'. Prove '..Said' where nothing that the law and all that it calls make is longer than what came in: it says more and counts as full. Else prove '..UptoSaid'. A law counts once. -/
mutual
def uptoBulk {H : Type} : DataW H → Nat
  | .lit (.string bytes) => bytes.length + 1
  | .lit _ => 1
  | .nil => 1
  | .ptr d => uptoBulk d + 1
  | .slice elems spare => uptoBulkAll elems + uptoBulkAll spare + 1
  | .agg parts => uptoBulkAll parts + 1
  | .iface _ d => uptoBulk d + 1
  | .map entries => uptoBulkEntries entries + 1
  | .held _ => 1
def uptoBulkAll {H : Type} : List (DataW H) → Nat
  | [] => 0
  | d :: r => uptoBulk d + uptoBulkAll r
def uptoBulkEntries {H : Type} : List (Lit × DataW H) → Nat
  | [] => 0
  | x :: r => uptoBulkEntry x + uptoBulkEntries r
def uptoBulkEntry {H : Type} : Lit × DataW H → Nat
  | (.string bytes, d) => bytes.length + uptoBulk d + 1
  | (_, d) => uptoBulk d + 1
 end
def uptoSmall : (H : Type) → List (DataW H) → Bool := fun _ ds => decide (uptoBulkAll ds ≤ 1048576)
def OpenSpec.upto (s : _root_.Go.ChangeSpec) : _root_.Go.OpenSpec := { _root_.Go.OpenSpec.ofChange s with cond := some uptoSmall }

/-- 'sandglasslaw09.WheelDue', WHERE WHAT IT READS IS OF BULK AT MOST 1048576: true; the input reads as it did. -/
def wheelDueUptoRow : OpenClaim := { program := "ytmdilnelogechaadoor", sum := "271a8857e76a7777a52c3fb92c448fa5183c99d15e3dc41f9744c67b34739ff8", func := "sandglass/sandglasslaw09.WheelDue", spec := "wheelDue", inPlace := ["math/bits.Add64"], unfollowed := true, recurses := true, named := ["math/bits.divideError", "math/bits.overflowError", "math/bits.deBruijn64tab"], apart := false, laid := [("math/bits.deBruijn64tab", laid_math_bits_deBruijn64tab)], narrowed := true }
def WheelDueUptoSaid : Prop := wheelDueUptoRow.holds Tryd.pinned (OpenSpec.upto wheelDueSpec)

/-- 'sandglasslaw09.WheelNext', WHERE WHAT IT READS IS OF BULK AT MOST 1048576: true; the input reads as it did. -/
def wheelNextUptoRow : OpenClaim := { program := "ytmdilnelogechaadoor", sum := "271a8857e76a7777a52c3fb92c448fa5183c99d15e3dc41f9744c67b34739ff8", func := "sandglass/sandglasslaw09.WheelNext", spec := "wheelNext", inPlace := ["math/bits.Add64"], unfollowed := true, recurses := true, named := ["math/bits.divideError", "math/bits.overflowError", "math/bits.deBruijn64tab"], apart := false, laid := [("math/bits.deBruijn64tab", laid_math_bits_deBruijn64tab)], narrowed := true }
def WheelNextUptoSaid : Prop := wheelNextUptoRow.holds Tryd.pinned (OpenSpec.upto wheelNextSpec)

/-- 'sandglasslaw09.WheelTells', WHERE WHAT IT READS IS OF BULK AT MOST 1048576: true; the input reads as it did. -/
def wheelTellsUptoRow : OpenClaim := { program := "ytmdilnelogechaadoor", sum := "271a8857e76a7777a52c3fb92c448fa5183c99d15e3dc41f9744c67b34739ff8", func := "sandglass/sandglasslaw09.WheelTells", spec := "wheelTells", inPlace := ["math/bits.Add64"], unfollowed := true, recurses := true, named := ["math/bits.divideError", "math/bits.overflowError", "math/bits.deBruijn64tab"], apart := false, laid := [("math/bits.deBruijn64tab", laid_math_bits_deBruijn64tab)], narrowed := true }
def WheelTellsUptoSaid : Prop := wheelTellsUptoRow.holds Tryd.pinned (OpenSpec.upto wheelTellsSpec)

/-- 'sandglasslaw09.WheelJump', WHERE WHAT IT READS IS OF BULK AT MOST 1048576: true; the input reads as it did. -/
def wheelJumpUptoRow : OpenClaim := { program := "ytmdilnelogechaadoor", sum := "271a8857e76a7777a52c3fb92c448fa5183c99d15e3dc41f9744c67b34739ff8", func := "sandglass/sandglasslaw09.WheelJump", spec := "wheelJump", inPlace := ["math/bits.Add64"], unfollowed := true, recurses := true, named := ["math/bits.divideError", "math/bits.overflowError", "math/bits.deBruijn64tab"], apart := false, laid := [("math/bits.deBruijn64tab", laid_math_bits_deBruijn64tab)], narrowed := true }
def WheelJumpUptoSaid : Prop := wheelJumpUptoRow.holds Tryd.pinned (OpenSpec.upto wheelJumpSpec)

/-- 'sandglasslaw09.WheelHeld', WHERE WHAT IT READS IS OF BULK AT MOST 1048576: true; the input reads as it did. -/
def wheelHeldUptoRow : OpenClaim := { program := "ytmdilnelogechaadoor", sum := "271a8857e76a7777a52c3fb92c448fa5183c99d15e3dc41f9744c67b34739ff8", func := "sandglass/sandglasslaw09.WheelHeld", spec := "wheelHeld", inPlace := ["math/bits.Add64"], unfollowed := true, recurses := true, named := ["math/bits.divideError", "math/bits.overflowError", "math/bits.deBruijn64tab"], apart := false, laid := [("math/bits.deBruijn64tab", laid_math_bits_deBruijn64tab)], narrowed := true }
def WheelHeldUptoSaid : Prop := wheelHeldUptoRow.holds Tryd.pinned (OpenSpec.upto wheelHeldSpec)

/-- 'sandglasslaw09.WheelNone', WHERE WHAT IT READS IS OF BULK AT MOST 1048576: true; the input reads as it did. -/
def wheelNoneUptoRow : OpenClaim := { program := "ytmdilnelogechaadoor", sum := "271a8857e76a7777a52c3fb92c448fa5183c99d15e3dc41f9744c67b34739ff8", func := "sandglass/sandglasslaw09.WheelNone", spec := "wheelNone", inPlace := ["math/bits.Add64"], unfollowed := true, recurses := true, named := ["math/bits.deBruijn64tab", "math/bits.divideError", "math/bits.overflowError"], apart := false, laid := [("math/bits.deBruijn64tab", laid_math_bits_deBruijn64tab)], narrowed := true }
def WheelNoneUptoSaid : Prop := wheelNoneUptoRow.holds Tryd.pinned (OpenSpec.upto wheelNoneSpec)

end Rows
end Go.Proofs.YtmdilnelogechaaDoor
