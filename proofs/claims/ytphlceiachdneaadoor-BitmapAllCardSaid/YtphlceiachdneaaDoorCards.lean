/-
  DERIVED. GIVEN WITH THE SEED: THE CARDS: each row of YtphlceiachdneaaDoorRows.lean that lists a variable, with what it lists TIED to the program's text (the seventh form; the later family's looks); each row that meets fmt, with fmt's text TOLD by the authors' own Lean function (tested against real Go, not proved from fmt's source: count such statements apart). THE CARD IS WHAT COUNTS. Prove the row's statement (the work); the ties are given (YtphlceiachdneaaDoorTie.lean); close each card by the builder's one call (the guide's Derived/Test/ToyasCard.lean, 'card_holds'). Laid BY PROGRAM, IN A SANDBOX (cutbox-door.mjs). By AI agents, Wed Nov 11 2026. No macro, syntax, notation, axiom, sorry.
-/
import Derived.Test.YtphlceiachdneaaDoorRows
import GoSem.ClaimSeven
namespace Go.Proofs.YtphlceiachdneaaDoor
namespace Rows

/-- THE TIED CARD OF 'sandglasslaw08.BitmapRound'. -/
def bitmapRoundCard : Claim7 := { stood := { row := bitmapRoundRow, standIns := [], harness := (true, "77e48742ea9a95b57ad3950b8282fbdf5755751047216f75a0d6efe18c32ffbb"), looks := false }, kinds := [], alts := [], laidByText := true, laidKinds := [.data], laidTests := true, laidLooks := .later }
def BitmapRoundCardSaid : Prop := Claim7.holds Tryd.pinned (.plain (OpenSpec.ofChange bitmapRoundSpec)) bitmapRoundCard

/-- THE TIED CARD OF 'sandglasslaw08.BitmapNext'. -/
def bitmapNextCard : Claim7 := { stood := { row := bitmapNextRow, standIns := [], harness := (true, "77e48742ea9a95b57ad3950b8282fbdf5755751047216f75a0d6efe18c32ffbb"), looks := false }, kinds := [], alts := [], laidByText := true, laidKinds := [.data], laidTests := true, laidLooks := .later }
def BitmapNextCardSaid : Prop := Claim7.holds Tryd.pinned (.plain (OpenSpec.ofChange bitmapNextSpec)) bitmapNextCard

/-- THE TIED CARD OF 'sandglasslaw08.BitmapTells'. -/
def bitmapTellsCard : Claim7 := { stood := { row := bitmapTellsRow, standIns := [], harness := (true, "77e48742ea9a95b57ad3950b8282fbdf5755751047216f75a0d6efe18c32ffbb"), looks := false }, kinds := [], alts := [], laidByText := true, laidKinds := [.data], laidTests := true, laidLooks := .later }
def BitmapTellsCardSaid : Prop := Claim7.holds Tryd.pinned (.plain (OpenSpec.ofChange bitmapTellsSpec)) bitmapTellsCard

/-- THE TIED CARD OF 'sandglasslaw08.BitmapBack'. -/
def bitmapBackCard : Claim7 := { stood := { row := bitmapBackRow, standIns := [], harness := (true, "77e48742ea9a95b57ad3950b8282fbdf5755751047216f75a0d6efe18c32ffbb"), looks := false }, kinds := [], alts := [], laidByText := true, laidKinds := [.data], laidTests := true, laidLooks := .later }
def BitmapBackCardSaid : Prop := Claim7.holds Tryd.pinned (.plain (OpenSpec.ofChange bitmapBackSpec)) bitmapBackCard

/-- THE TIED CARD OF 'sandglasslaw08.BitmapAll'. -/
def bitmapAllCard : Claim7 := { stood := { row := bitmapAllRow, standIns := [], harness := (true, "77e48742ea9a95b57ad3950b8282fbdf5755751047216f75a0d6efe18c32ffbb"), looks := false }, kinds := [], alts := [], laidByText := true, laidKinds := [.data], laidTests := true, laidLooks := .later }
def BitmapAllCardSaid : Prop := Claim7.holds Tryd.pinned (.plain (OpenSpec.ofChange bitmapAllSpec)) bitmapAllCard

/-- THE TIED CARD OF 'sandglasslaw08.BitmapNone'. -/
def bitmapNoneCard : Claim7 := { stood := { row := bitmapNoneRow, standIns := [], harness := (true, "77e48742ea9a95b57ad3950b8282fbdf5755751047216f75a0d6efe18c32ffbb"), looks := false }, kinds := [], alts := [], laidByText := true, laidKinds := [.data], laidTests := true, laidLooks := .later }
def BitmapNoneCardSaid : Prop := Claim7.holds Tryd.pinned (.plain (OpenSpec.ofChange bitmapNoneSpec)) bitmapNoneCard

/-- THE SECOND FORM's CARD OF 'sandglasslaw08.BitmapRound'. -/
def bitmapRoundUptoCard : Claim7 := { stood := { row := bitmapRoundUptoRow, standIns := [], harness := (true, "77e48742ea9a95b57ad3950b8282fbdf5755751047216f75a0d6efe18c32ffbb"), looks := false }, kinds := [], alts := [], laidByText := true, laidKinds := [.data], laidTests := true, laidLooks := .later }
def BitmapRoundUptoCardSaid : Prop := Claim7.holds Tryd.pinned (.plain (OpenSpec.upto bitmapRoundSpec)) bitmapRoundUptoCard

/-- THE SECOND FORM's CARD OF 'sandglasslaw08.BitmapNext'. -/
def bitmapNextUptoCard : Claim7 := { stood := { row := bitmapNextUptoRow, standIns := [], harness := (true, "77e48742ea9a95b57ad3950b8282fbdf5755751047216f75a0d6efe18c32ffbb"), looks := false }, kinds := [], alts := [], laidByText := true, laidKinds := [.data], laidTests := true, laidLooks := .later }
def BitmapNextUptoCardSaid : Prop := Claim7.holds Tryd.pinned (.plain (OpenSpec.upto bitmapNextSpec)) bitmapNextUptoCard

/-- THE SECOND FORM's CARD OF 'sandglasslaw08.BitmapTells'. -/
def bitmapTellsUptoCard : Claim7 := { stood := { row := bitmapTellsUptoRow, standIns := [], harness := (true, "77e48742ea9a95b57ad3950b8282fbdf5755751047216f75a0d6efe18c32ffbb"), looks := false }, kinds := [], alts := [], laidByText := true, laidKinds := [.data], laidTests := true, laidLooks := .later }
def BitmapTellsUptoCardSaid : Prop := Claim7.holds Tryd.pinned (.plain (OpenSpec.upto bitmapTellsSpec)) bitmapTellsUptoCard

/-- THE SECOND FORM's CARD OF 'sandglasslaw08.BitmapBack'. -/
def bitmapBackUptoCard : Claim7 := { stood := { row := bitmapBackUptoRow, standIns := [], harness := (true, "77e48742ea9a95b57ad3950b8282fbdf5755751047216f75a0d6efe18c32ffbb"), looks := false }, kinds := [], alts := [], laidByText := true, laidKinds := [.data], laidTests := true, laidLooks := .later }
def BitmapBackUptoCardSaid : Prop := Claim7.holds Tryd.pinned (.plain (OpenSpec.upto bitmapBackSpec)) bitmapBackUptoCard

/-- THE SECOND FORM's CARD OF 'sandglasslaw08.BitmapAll'. -/
def bitmapAllUptoCard : Claim7 := { stood := { row := bitmapAllUptoRow, standIns := [], harness := (true, "77e48742ea9a95b57ad3950b8282fbdf5755751047216f75a0d6efe18c32ffbb"), looks := false }, kinds := [], alts := [], laidByText := true, laidKinds := [.data], laidTests := true, laidLooks := .later }
def BitmapAllUptoCardSaid : Prop := Claim7.holds Tryd.pinned (.plain (OpenSpec.upto bitmapAllSpec)) bitmapAllUptoCard

/-- THE SECOND FORM's CARD OF 'sandglasslaw08.BitmapNone'. -/
def bitmapNoneUptoCard : Claim7 := { stood := { row := bitmapNoneUptoRow, standIns := [], harness := (true, "77e48742ea9a95b57ad3950b8282fbdf5755751047216f75a0d6efe18c32ffbb"), looks := false }, kinds := [], alts := [], laidByText := true, laidKinds := [.data], laidTests := true, laidLooks := .later }
def BitmapNoneUptoCardSaid : Prop := Claim7.holds Tryd.pinned (.plain (OpenSpec.upto bitmapNoneSpec)) bitmapNoneUptoCard
end Rows
end Go.Proofs.YtphlceiachdneaaDoor
