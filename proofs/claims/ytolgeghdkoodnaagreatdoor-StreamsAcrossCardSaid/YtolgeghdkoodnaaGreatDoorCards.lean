/-
  DERIVED. GIVEN WITH THE SEED: THE CARDS: each row of YtolgeghdkoodnaaGreatDoorRows.lean that lists a variable, with what it lists TIED to the program's text (the seventh form; the later family's looks); each row that meets fmt, with fmt's text TOLD by the authors' own Lean function (tested against real Go, not proved from fmt's source: count such statements apart). THE CARD IS WHAT COUNTS. Prove the row's statement (the work); the ties are given (YtolgeghdkoodnaaGreatDoorTie.lean); close each card by the builder's one call (the guide's Derived/Test/ToyasCard.lean, 'card_holds'). Laid BY PROGRAM, IN A SANDBOX (cutbox-door.mjs). By AI agents, Wed Nov 11 2026. No macro, syntax, notation, axiom, sorry.
-/
import Derived.Test.YtolgeghdkoodnaaGreatDoorRows
import GoSem.ClaimSeven
namespace Go.Proofs.YtolgeghdkoodnaaGreatDoor
namespace Rows

/-- THE TIED CARD OF 'doorwardlaw18.StreamsIds'. -/
def streamsIdsCard : Claim7 := { stood := { row := streamsIdsRow, standIns := [], harness := (true, "10a069835bc6c55c5a0efb869ea530acae6a7b3a86b8a1b9eff36c4c4e22e822"), looks := false }, kinds := [], alts := [], laidByText := true, laidKinds := [.data, .data], laidTests := true, laidLooks := .later }
def StreamsIdsCardSaid : Prop := Claim7.holds Tryz.pinned (.plain (OpenSpec.ofChange streamsIdsSpec)) streamsIdsCard

/-- THE TIED CARD OF 'doorwardlaw18.StreamsRoom'. -/
def streamsRoomCard : Claim7 := { stood := { row := streamsRoomRow, standIns := [], harness := (true, "10a069835bc6c55c5a0efb869ea530acae6a7b3a86b8a1b9eff36c4c4e22e822"), looks := false }, kinds := [], alts := [], laidByText := true, laidKinds := [.data, .data], laidTests := true, laidLooks := .later }
def StreamsRoomCardSaid : Prop := Claim7.holds Tryz.pinned (.plain (OpenSpec.ofChange streamsRoomSpec)) streamsRoomCard

/-- THE TIED CARD OF 'doorwardlaw18.StreamsResets'. -/
def streamsResetsCard : Claim7 := { stood := { row := streamsResetsRow, standIns := [], harness := (true, "10a069835bc6c55c5a0efb869ea530acae6a7b3a86b8a1b9eff36c4c4e22e822"), looks := false }, kinds := [], alts := [], laidByText := true, laidKinds := [.data, .data], laidTests := true, laidLooks := .later }
def StreamsResetsCardSaid : Prop := Claim7.holds Tryz.pinned (.plain (OpenSpec.ofChange streamsResetsSpec)) streamsResetsCard

/-- THE TIED CARD OF 'doorwardlaw18.StreamsAcross'. -/
def streamsAcrossCard : Claim7 := { stood := { row := streamsAcrossRow, standIns := [], harness := (true, "10a069835bc6c55c5a0efb869ea530acae6a7b3a86b8a1b9eff36c4c4e22e822"), looks := false }, kinds := [], alts := [], laidByText := true, laidKinds := [.data, .data], laidTests := true, laidLooks := .later }
def StreamsAcrossCardSaid : Prop := Claim7.holds Tryz.pinned (.plain (OpenSpec.ofChange streamsAcrossSpec)) streamsAcrossCard

/-- THE SECOND FORM's CARD OF 'doorwardlaw18.StreamsIds'. -/
def streamsIdsUptoCard : Claim7 := { stood := { row := streamsIdsUptoRow, standIns := [], harness := (true, "10a069835bc6c55c5a0efb869ea530acae6a7b3a86b8a1b9eff36c4c4e22e822"), looks := false }, kinds := [], alts := [], laidByText := true, laidKinds := [.data, .data], laidTests := true, laidLooks := .later }
def StreamsIdsUptoCardSaid : Prop := Claim7.holds Tryz.pinned (.plain (OpenSpec.upto streamsIdsSpec)) streamsIdsUptoCard

/-- THE SECOND FORM's CARD OF 'doorwardlaw18.StreamsRoom'. -/
def streamsRoomUptoCard : Claim7 := { stood := { row := streamsRoomUptoRow, standIns := [], harness := (true, "10a069835bc6c55c5a0efb869ea530acae6a7b3a86b8a1b9eff36c4c4e22e822"), looks := false }, kinds := [], alts := [], laidByText := true, laidKinds := [.data, .data], laidTests := true, laidLooks := .later }
def StreamsRoomUptoCardSaid : Prop := Claim7.holds Tryz.pinned (.plain (OpenSpec.upto streamsRoomSpec)) streamsRoomUptoCard

/-- THE SECOND FORM's CARD OF 'doorwardlaw18.StreamsResets'. -/
def streamsResetsUptoCard : Claim7 := { stood := { row := streamsResetsUptoRow, standIns := [], harness := (true, "10a069835bc6c55c5a0efb869ea530acae6a7b3a86b8a1b9eff36c4c4e22e822"), looks := false }, kinds := [], alts := [], laidByText := true, laidKinds := [.data, .data], laidTests := true, laidLooks := .later }
def StreamsResetsUptoCardSaid : Prop := Claim7.holds Tryz.pinned (.plain (OpenSpec.upto streamsResetsSpec)) streamsResetsUptoCard

/-- THE SECOND FORM's CARD OF 'doorwardlaw18.StreamsAcross'. -/
def streamsAcrossUptoCard : Claim7 := { stood := { row := streamsAcrossUptoRow, standIns := [], harness := (true, "10a069835bc6c55c5a0efb869ea530acae6a7b3a86b8a1b9eff36c4c4e22e822"), looks := false }, kinds := [], alts := [], laidByText := true, laidKinds := [.data, .data], laidTests := true, laidLooks := .later }
def StreamsAcrossUptoCardSaid : Prop := Claim7.holds Tryz.pinned (.plain (OpenSpec.upto streamsAcrossSpec)) streamsAcrossUptoCard
end Rows
end Go.Proofs.YtolgeghdkoodnaaGreatDoor
