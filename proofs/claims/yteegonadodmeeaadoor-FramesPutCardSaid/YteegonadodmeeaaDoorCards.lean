/-
  DERIVED. GIVEN WITH THE SEED: THE CARDS: each row of YteegonadodmeeaaDoorRows.lean that lists a variable, with what it lists TIED to the program's text (the seventh form; the later family's looks); each row that meets fmt, with fmt's text TOLD by the authors' own Lean function (tested against real Go, not proved from fmt's source: count such statements apart). THE CARD IS WHAT COUNTS. Prove the row's statement (the work); the ties are given (YteegonadodmeeaaDoorTie.lean); close each card by the builder's one call (the guide's Derived/Test/ToyasCard.lean, 'card_holds'). Laid BY PROGRAM, IN A SANDBOX (cutbox-door.mjs). By AI agents, Wed Nov 11 2026. No macro, syntax, notation, axiom, sorry.
-/
import Derived.Test.YteegonadodmeeaaDoorRows
import GoSem.ClaimSeven
namespace Go.Proofs.YteegonadodmeeaaDoor
namespace Rows

/-- THE TIED CARD OF 'doorwardlaw03.FramesPut'. -/
def framesPutCard : Claim7 := { stood := { row := framesPutRow, standIns := [], harness := (true, "76814e1f9b7ae172da97d08d985848100bde6cf763ae66b967777bc0e75bd2bb"), looks := false }, kinds := [], alts := [], laidByText := true, laidKinds := [.data, .data], laidTests := true, laidLooks := .later }
def FramesPutCardSaid : Prop := Claim7.holds Tryd.pinned (.plain (OpenSpec.ofChange framesPutSpec)) framesPutCard

/-- THE TIED CARD OF 'doorwardlaw03.FramesBack'. -/
def framesBackCard : Claim7 := { stood := { row := framesBackRow, standIns := [], harness := (true, "76814e1f9b7ae172da97d08d985848100bde6cf763ae66b967777bc0e75bd2bb"), looks := false }, kinds := [], alts := [], laidByText := true, laidKinds := [.data, .data], laidTests := true, laidLooks := .later }
def FramesBackCardSaid : Prop := Claim7.holds Tryd.pinned (.plain (OpenSpec.ofChange framesBackSpec)) framesBackCard

/-- THE TIED CARD OF 'doorwardlaw03.FramesCut'. -/
def framesCutCard : Claim7 := { stood := { row := framesCutRow, standIns := [], harness := (true, "76814e1f9b7ae172da97d08d985848100bde6cf763ae66b967777bc0e75bd2bb"), looks := false }, kinds := [], alts := [], laidByText := true, laidKinds := [.data, .data], laidTests := true, laidLooks := .later }
def FramesCutCardSaid : Prop := Claim7.holds Tryd.pinned (.plain (OpenSpec.ofChange framesCutSpec)) framesCutCard

/-- THE TIED CARD OF 'doorwardlaw03.FramesApart'. -/
def framesApartCard : Claim7 := { stood := { row := framesApartRow, standIns := [], harness := (true, "76814e1f9b7ae172da97d08d985848100bde6cf763ae66b967777bc0e75bd2bb"), looks := false }, kinds := [], alts := [], laidByText := true, laidKinds := [.data, .data], laidTests := true, laidLooks := .later }
def FramesApartCardSaid : Prop := Claim7.holds Tryd.pinned (.plain (OpenSpec.ofChange framesApartSpec)) framesApartCard

/-- THE TIED CARD OF 'doorwardlaw03.FramesAgain'. -/
def framesAgainCard : Claim7 := { stood := { row := framesAgainRow, standIns := [], harness := (true, "76814e1f9b7ae172da97d08d985848100bde6cf763ae66b967777bc0e75bd2bb"), looks := false }, kinds := [], alts := [], laidByText := true, laidKinds := [.data, .data], laidTests := true, laidLooks := .later }
def FramesAgainCardSaid : Prop := Claim7.holds Tryd.pinned (.plain (OpenSpec.ofChange framesAgainSpec)) framesAgainCard

/-- THE TIED CARD OF 'doorwardlaw03.FramesZeros'. -/
def framesZerosCard : Claim7 := { stood := { row := framesZerosRow, standIns := [], harness := (true, "76814e1f9b7ae172da97d08d985848100bde6cf763ae66b967777bc0e75bd2bb"), looks := false }, kinds := [], alts := [], laidByText := true, laidKinds := [.data, .data], laidTests := true, laidLooks := .later }
def FramesZerosCardSaid : Prop := Claim7.holds Tryd.pinned (.plain (OpenSpec.ofChange framesZerosSpec)) framesZerosCard

/-- THE TIED CARD OF 'doorwardlaw03.FramesList'. -/
def framesListCard : Claim7 := { stood := { row := framesListRow, standIns := [], harness := (true, "76814e1f9b7ae172da97d08d985848100bde6cf763ae66b967777bc0e75bd2bb"), looks := false }, kinds := [], alts := [], laidByText := true, laidKinds := [.data, .data], laidTests := true, laidLooks := .later }
def FramesListCardSaid : Prop := Claim7.holds Tryd.pinned (.plain (OpenSpec.ofChange framesListSpec)) framesListCard

/-- THE SECOND FORM's CARD OF 'doorwardlaw03.FramesPut'. -/
def framesPutUptoCard : Claim7 := { stood := { row := framesPutUptoRow, standIns := [], harness := (true, "76814e1f9b7ae172da97d08d985848100bde6cf763ae66b967777bc0e75bd2bb"), looks := false }, kinds := [], alts := [], laidByText := true, laidKinds := [.data, .data], laidTests := true, laidLooks := .later }
def FramesPutUptoCardSaid : Prop := Claim7.holds Tryd.pinned (.plain (OpenSpec.upto framesPutSpec)) framesPutUptoCard

/-- THE SECOND FORM's CARD OF 'doorwardlaw03.FramesBack'. -/
def framesBackUptoCard : Claim7 := { stood := { row := framesBackUptoRow, standIns := [], harness := (true, "76814e1f9b7ae172da97d08d985848100bde6cf763ae66b967777bc0e75bd2bb"), looks := false }, kinds := [], alts := [], laidByText := true, laidKinds := [.data, .data], laidTests := true, laidLooks := .later }
def FramesBackUptoCardSaid : Prop := Claim7.holds Tryd.pinned (.plain (OpenSpec.upto framesBackSpec)) framesBackUptoCard

/-- THE SECOND FORM's CARD OF 'doorwardlaw03.FramesCut'. -/
def framesCutUptoCard : Claim7 := { stood := { row := framesCutUptoRow, standIns := [], harness := (true, "76814e1f9b7ae172da97d08d985848100bde6cf763ae66b967777bc0e75bd2bb"), looks := false }, kinds := [], alts := [], laidByText := true, laidKinds := [.data, .data], laidTests := true, laidLooks := .later }
def FramesCutUptoCardSaid : Prop := Claim7.holds Tryd.pinned (.plain (OpenSpec.upto framesCutSpec)) framesCutUptoCard

/-- THE SECOND FORM's CARD OF 'doorwardlaw03.FramesApart'. -/
def framesApartUptoCard : Claim7 := { stood := { row := framesApartUptoRow, standIns := [], harness := (true, "76814e1f9b7ae172da97d08d985848100bde6cf763ae66b967777bc0e75bd2bb"), looks := false }, kinds := [], alts := [], laidByText := true, laidKinds := [.data, .data], laidTests := true, laidLooks := .later }
def FramesApartUptoCardSaid : Prop := Claim7.holds Tryd.pinned (.plain (OpenSpec.upto framesApartSpec)) framesApartUptoCard

/-- THE SECOND FORM's CARD OF 'doorwardlaw03.FramesAgain'. -/
def framesAgainUptoCard : Claim7 := { stood := { row := framesAgainUptoRow, standIns := [], harness := (true, "76814e1f9b7ae172da97d08d985848100bde6cf763ae66b967777bc0e75bd2bb"), looks := false }, kinds := [], alts := [], laidByText := true, laidKinds := [.data, .data], laidTests := true, laidLooks := .later }
def FramesAgainUptoCardSaid : Prop := Claim7.holds Tryd.pinned (.plain (OpenSpec.upto framesAgainSpec)) framesAgainUptoCard

/-- THE SECOND FORM's CARD OF 'doorwardlaw03.FramesZeros'. -/
def framesZerosUptoCard : Claim7 := { stood := { row := framesZerosUptoRow, standIns := [], harness := (true, "76814e1f9b7ae172da97d08d985848100bde6cf763ae66b967777bc0e75bd2bb"), looks := false }, kinds := [], alts := [], laidByText := true, laidKinds := [.data, .data], laidTests := true, laidLooks := .later }
def FramesZerosUptoCardSaid : Prop := Claim7.holds Tryd.pinned (.plain (OpenSpec.upto framesZerosSpec)) framesZerosUptoCard

/-- THE SECOND FORM's CARD OF 'doorwardlaw03.FramesList'. -/
def framesListUptoCard : Claim7 := { stood := { row := framesListUptoRow, standIns := [], harness := (true, "76814e1f9b7ae172da97d08d985848100bde6cf763ae66b967777bc0e75bd2bb"), looks := false }, kinds := [], alts := [], laidByText := true, laidKinds := [.data, .data], laidTests := true, laidLooks := .later }
def FramesListUptoCardSaid : Prop := Claim7.holds Tryd.pinned (.plain (OpenSpec.upto framesListSpec)) framesListUptoCard
end Rows
end Go.Proofs.YteegonadodmeeaaDoor
