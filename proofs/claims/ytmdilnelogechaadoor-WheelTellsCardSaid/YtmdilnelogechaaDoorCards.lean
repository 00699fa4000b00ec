/-
  DERIVED. GIVEN WITH THE SEED: THE CARDS: each row of YtmdilnelogechaaDoorRows.lean that lists a variable, with what it lists TIED to the program's text (the seventh form; the later family's looks); each row that meets fmt, with fmt's text TOLD by the authors' own Lean function (tested against real Go, not proved from fmt's source: count such statements apart). THE CARD IS WHAT COUNTS. Prove the row's statement (the work); the ties are given (YtmdilnelogechaaDoorTie.lean); close each card by the builder's one call (the guide's Derived/Test/ToyasCard.lean, 'card_holds'). Laid BY PROGRAM, IN A SANDBOX (cutbox-door.mjs). By AI agents, Wed Nov 11 2026. No macro, syntax, notation, axiom, sorry.
-/
import Derived.Test.YtmdilnelogechaaDoorRows
import GoSem.ClaimSeven
namespace Go.Proofs.YtmdilnelogechaaDoor
namespace Rows

/-- THE TIED CARD OF 'sandglasslaw09.WheelDue'. -/
def wheelDueCard : Claim7 := { stood := { row := wheelDueRow, standIns := [], harness := (true, "e24a1ab73c98abba03daf1ab0f579a40fed70e99cddc77932fc20de4d4c9396e"), looks := false }, kinds := [], alts := [], laidByText := true, laidKinds := [.data], laidTests := true, laidLooks := .later }
def WheelDueCardSaid : Prop := Claim7.holds Tryd.pinned (.plain (OpenSpec.ofChange wheelDueSpec)) wheelDueCard

/-- THE TIED CARD OF 'sandglasslaw09.WheelNext'. -/
def wheelNextCard : Claim7 := { stood := { row := wheelNextRow, standIns := [], harness := (true, "e24a1ab73c98abba03daf1ab0f579a40fed70e99cddc77932fc20de4d4c9396e"), looks := false }, kinds := [], alts := [], laidByText := true, laidKinds := [.data], laidTests := true, laidLooks := .later }
def WheelNextCardSaid : Prop := Claim7.holds Tryd.pinned (.plain (OpenSpec.ofChange wheelNextSpec)) wheelNextCard

/-- THE TIED CARD OF 'sandglasslaw09.WheelTells'. -/
def wheelTellsCard : Claim7 := { stood := { row := wheelTellsRow, standIns := [], harness := (true, "e24a1ab73c98abba03daf1ab0f579a40fed70e99cddc77932fc20de4d4c9396e"), looks := false }, kinds := [], alts := [], laidByText := true, laidKinds := [.data], laidTests := true, laidLooks := .later }
def WheelTellsCardSaid : Prop := Claim7.holds Tryd.pinned (.plain (OpenSpec.ofChange wheelTellsSpec)) wheelTellsCard

/-- THE TIED CARD OF 'sandglasslaw09.WheelJump'. -/
def wheelJumpCard : Claim7 := { stood := { row := wheelJumpRow, standIns := [], harness := (true, "e24a1ab73c98abba03daf1ab0f579a40fed70e99cddc77932fc20de4d4c9396e"), looks := false }, kinds := [], alts := [], laidByText := true, laidKinds := [.data], laidTests := true, laidLooks := .later }
def WheelJumpCardSaid : Prop := Claim7.holds Tryd.pinned (.plain (OpenSpec.ofChange wheelJumpSpec)) wheelJumpCard

/-- THE TIED CARD OF 'sandglasslaw09.WheelHeld'. -/
def wheelHeldCard : Claim7 := { stood := { row := wheelHeldRow, standIns := [], harness := (true, "e24a1ab73c98abba03daf1ab0f579a40fed70e99cddc77932fc20de4d4c9396e"), looks := false }, kinds := [], alts := [], laidByText := true, laidKinds := [.data], laidTests := true, laidLooks := .later }
def WheelHeldCardSaid : Prop := Claim7.holds Tryd.pinned (.plain (OpenSpec.ofChange wheelHeldSpec)) wheelHeldCard

/-- THE TIED CARD OF 'sandglasslaw09.WheelNone'. -/
def wheelNoneCard : Claim7 := { stood := { row := wheelNoneRow, standIns := [], harness := (true, "e24a1ab73c98abba03daf1ab0f579a40fed70e99cddc77932fc20de4d4c9396e"), looks := false }, kinds := [], alts := [], laidByText := true, laidKinds := [.data], laidTests := true, laidLooks := .later }
def WheelNoneCardSaid : Prop := Claim7.holds Tryd.pinned (.plain (OpenSpec.ofChange wheelNoneSpec)) wheelNoneCard

/-- THE SECOND FORM's CARD OF 'sandglasslaw09.WheelDue'. -/
def wheelDueUptoCard : Claim7 := { stood := { row := wheelDueUptoRow, standIns := [], harness := (true, "e24a1ab73c98abba03daf1ab0f579a40fed70e99cddc77932fc20de4d4c9396e"), looks := false }, kinds := [], alts := [], laidByText := true, laidKinds := [.data], laidTests := true, laidLooks := .later }
def WheelDueUptoCardSaid : Prop := Claim7.holds Tryd.pinned (.plain (OpenSpec.upto wheelDueSpec)) wheelDueUptoCard

/-- THE SECOND FORM's CARD OF 'sandglasslaw09.WheelNext'. -/
def wheelNextUptoCard : Claim7 := { stood := { row := wheelNextUptoRow, standIns := [], harness := (true, "e24a1ab73c98abba03daf1ab0f579a40fed70e99cddc77932fc20de4d4c9396e"), looks := false }, kinds := [], alts := [], laidByText := true, laidKinds := [.data], laidTests := true, laidLooks := .later }
def WheelNextUptoCardSaid : Prop := Claim7.holds Tryd.pinned (.plain (OpenSpec.upto wheelNextSpec)) wheelNextUptoCard

/-- THE SECOND FORM's CARD OF 'sandglasslaw09.WheelTells'. -/
def wheelTellsUptoCard : Claim7 := { stood := { row := wheelTellsUptoRow, standIns := [], harness := (true, "e24a1ab73c98abba03daf1ab0f579a40fed70e99cddc77932fc20de4d4c9396e"), looks := false }, kinds := [], alts := [], laidByText := true, laidKinds := [.data], laidTests := true, laidLooks := .later }
def WheelTellsUptoCardSaid : Prop := Claim7.holds Tryd.pinned (.plain (OpenSpec.upto wheelTellsSpec)) wheelTellsUptoCard

/-- THE SECOND FORM's CARD OF 'sandglasslaw09.WheelJump'. -/
def wheelJumpUptoCard : Claim7 := { stood := { row := wheelJumpUptoRow, standIns := [], harness := (true, "e24a1ab73c98abba03daf1ab0f579a40fed70e99cddc77932fc20de4d4c9396e"), looks := false }, kinds := [], alts := [], laidByText := true, laidKinds := [.data], laidTests := true, laidLooks := .later }
def WheelJumpUptoCardSaid : Prop := Claim7.holds Tryd.pinned (.plain (OpenSpec.upto wheelJumpSpec)) wheelJumpUptoCard

/-- THE SECOND FORM's CARD OF 'sandglasslaw09.WheelHeld'. -/
def wheelHeldUptoCard : Claim7 := { stood := { row := wheelHeldUptoRow, standIns := [], harness := (true, "e24a1ab73c98abba03daf1ab0f579a40fed70e99cddc77932fc20de4d4c9396e"), looks := false }, kinds := [], alts := [], laidByText := true, laidKinds := [.data], laidTests := true, laidLooks := .later }
def WheelHeldUptoCardSaid : Prop := Claim7.holds Tryd.pinned (.plain (OpenSpec.upto wheelHeldSpec)) wheelHeldUptoCard

/-- THE SECOND FORM's CARD OF 'sandglasslaw09.WheelNone'. -/
def wheelNoneUptoCard : Claim7 := { stood := { row := wheelNoneUptoRow, standIns := [], harness := (true, "e24a1ab73c98abba03daf1ab0f579a40fed70e99cddc77932fc20de4d4c9396e"), looks := false }, kinds := [], alts := [], laidByText := true, laidKinds := [.data], laidTests := true, laidLooks := .later }
def WheelNoneUptoCardSaid : Prop := Claim7.holds Tryd.pinned (.plain (OpenSpec.upto wheelNoneSpec)) wheelNoneUptoCard
end Rows
end Go.Proofs.YtmdilnelogechaaDoor
