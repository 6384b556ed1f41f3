/-
  DERIVED. GIVEN WITH THE SEED: THE CARDS: each row of YtolbeamphmoimaaDoorRows.lean that lists a variable, with what it lists TIED to the program's text (the seventh form; the later family's looks); each row that meets fmt, with fmt's text TOLD by the authors' own Lean function (tested against real Go, not proved from fmt's source: count such statements apart). THE CARD IS WHAT COUNTS. Prove the row's statement (the work); the ties are given (YtolbeamphmoimaaDoorTie.lean); close each card by the builder's one call (the guide's Derived/Test/ToyasCard.lean, 'card_holds'). Laid BY PROGRAM, IN A SANDBOX (cutbox-door.mjs). By AI agents, Wed Nov 11 2026. No macro, syntax, notation, axiom, sorry.
-/
import Derived.Test.YtolbeamphmoimaaDoorRows
import GoSem.ClaimSeven
namespace Go.Proofs.YtolbeamphmoimaaDoor
namespace Rows

/-- THE TIED CARD OF 'doorwardlaw04.HeaderPuts'. -/
def headerPutsCard : Claim7 := { stood := { row := headerPutsRow, standIns := [], harness := (true, "721cc24671fd3dd623d0e978025a9f276545c855b19b7dd43e6281a6af8bc837"), looks := false }, kinds := [], alts := [], laidByText := true, laidKinds := [.data, .data], laidTests := true, laidLooks := .later }
def HeaderPutsCardSaid : Prop := Claim7.holds Tryd.pinned (.plain (OpenSpec.ofChange headerPutsSpec)) headerPutsCard

/-- THE TIED CARD OF 'doorwardlaw04.HeaderParses'. -/
def headerParsesCard : Claim7 := { stood := { row := headerParsesRow, standIns := [], harness := (true, "721cc24671fd3dd623d0e978025a9f276545c855b19b7dd43e6281a6af8bc837"), looks := false }, kinds := [], alts := [], laidByText := true, laidKinds := [.data, .data], laidTests := true, laidLooks := .later }
def HeaderParsesCardSaid : Prop := Claim7.holds Tryd.pinned (.plain (OpenSpec.ofChange headerParsesSpec)) headerParsesCard

/-- THE TIED CARD OF 'doorwardlaw04.HeaderBack'. -/
def headerBackCard : Claim7 := { stood := { row := headerBackRow, standIns := [], harness := (true, "721cc24671fd3dd623d0e978025a9f276545c855b19b7dd43e6281a6af8bc837"), looks := false }, kinds := [], alts := [], laidByText := true, laidKinds := [.data, .data], laidTests := true, laidLooks := .later }
def HeaderBackCardSaid : Prop := Claim7.holds Tryd.pinned (.plain (OpenSpec.ofChange headerBackSpec)) headerBackCard

/-- THE TIED CARD OF 'doorwardlaw04.HeaderCut'. -/
def headerCutCard : Claim7 := { stood := { row := headerCutRow, standIns := [], harness := (true, "721cc24671fd3dd623d0e978025a9f276545c855b19b7dd43e6281a6af8bc837"), looks := false }, kinds := [], alts := [], laidByText := true, laidKinds := [.data, .data], laidTests := true, laidLooks := .later }
def HeaderCutCardSaid : Prop := Claim7.holds Tryd.pinned (.plain (OpenSpec.ofChange headerCutSpec)) headerCutCard

/-- THE TIED CARD OF 'doorwardlaw04.HeaderPeeks'. -/
def headerPeeksCard : Claim7 := { stood := { row := headerPeeksRow, standIns := [], harness := (true, "721cc24671fd3dd623d0e978025a9f276545c855b19b7dd43e6281a6af8bc837"), looks := false }, kinds := [], alts := [], laidByText := true, laidKinds := [.data, .data], laidTests := true, laidLooks := .later }
def HeaderPeeksCardSaid : Prop := Claim7.holds Tryd.pinned (.plain (OpenSpec.ofChange headerPeeksSpec)) headerPeeksCard

/-- THE TIED CARD OF 'doorwardlaw04.HeaderApart'. -/
def headerApartCard : Claim7 := { stood := { row := headerApartRow, standIns := [], harness := (true, "721cc24671fd3dd623d0e978025a9f276545c855b19b7dd43e6281a6af8bc837"), looks := false }, kinds := [], alts := [], laidByText := true, laidKinds := [.data, .data], laidTests := true, laidLooks := .later }
def HeaderApartCardSaid : Prop := Claim7.holds Tryd.pinned (.plain (OpenSpec.ofChange headerApartSpec)) headerApartCard

/-- THE TIED CARD OF 'doorwardlaw04.HeaderRest'. -/
def headerRestCard : Claim7 := { stood := { row := headerRestRow, standIns := [], harness := (true, "721cc24671fd3dd623d0e978025a9f276545c855b19b7dd43e6281a6af8bc837"), looks := false }, kinds := [], alts := [], laidByText := true, laidKinds := [.data, .data], laidTests := true, laidLooks := .later }
def HeaderRestCardSaid : Prop := Claim7.holds Tryd.pinned (.plain (OpenSpec.ofChange headerRestSpec)) headerRestCard

/-- THE SECOND FORM's CARD OF 'doorwardlaw04.HeaderPuts'. -/
def headerPutsUptoCard : Claim7 := { stood := { row := headerPutsUptoRow, standIns := [], harness := (true, "721cc24671fd3dd623d0e978025a9f276545c855b19b7dd43e6281a6af8bc837"), looks := false }, kinds := [], alts := [], laidByText := true, laidKinds := [.data, .data], laidTests := true, laidLooks := .later }
def HeaderPutsUptoCardSaid : Prop := Claim7.holds Tryd.pinned (.plain (OpenSpec.upto headerPutsSpec)) headerPutsUptoCard

/-- THE SECOND FORM's CARD OF 'doorwardlaw04.HeaderParses'. -/
def headerParsesUptoCard : Claim7 := { stood := { row := headerParsesUptoRow, standIns := [], harness := (true, "721cc24671fd3dd623d0e978025a9f276545c855b19b7dd43e6281a6af8bc837"), looks := false }, kinds := [], alts := [], laidByText := true, laidKinds := [.data, .data], laidTests := true, laidLooks := .later }
def HeaderParsesUptoCardSaid : Prop := Claim7.holds Tryd.pinned (.plain (OpenSpec.upto headerParsesSpec)) headerParsesUptoCard

/-- THE SECOND FORM's CARD OF 'doorwardlaw04.HeaderBack'. -/
def headerBackUptoCard : Claim7 := { stood := { row := headerBackUptoRow, standIns := [], harness := (true, "721cc24671fd3dd623d0e978025a9f276545c855b19b7dd43e6281a6af8bc837"), looks := false }, kinds := [], alts := [], laidByText := true, laidKinds := [.data, .data], laidTests := true, laidLooks := .later }
def HeaderBackUptoCardSaid : Prop := Claim7.holds Tryd.pinned (.plain (OpenSpec.upto headerBackSpec)) headerBackUptoCard

/-- THE SECOND FORM's CARD OF 'doorwardlaw04.HeaderCut'. -/
def headerCutUptoCard : Claim7 := { stood := { row := headerCutUptoRow, standIns := [], harness := (true, "721cc24671fd3dd623d0e978025a9f276545c855b19b7dd43e6281a6af8bc837"), looks := false }, kinds := [], alts := [], laidByText := true, laidKinds := [.data, .data], laidTests := true, laidLooks := .later }
def HeaderCutUptoCardSaid : Prop := Claim7.holds Tryd.pinned (.plain (OpenSpec.upto headerCutSpec)) headerCutUptoCard

/-- THE SECOND FORM's CARD OF 'doorwardlaw04.HeaderPeeks'. -/
def headerPeeksUptoCard : Claim7 := { stood := { row := headerPeeksUptoRow, standIns := [], harness := (true, "721cc24671fd3dd623d0e978025a9f276545c855b19b7dd43e6281a6af8bc837"), looks := false }, kinds := [], alts := [], laidByText := true, laidKinds := [.data, .data], laidTests := true, laidLooks := .later }
def HeaderPeeksUptoCardSaid : Prop := Claim7.holds Tryd.pinned (.plain (OpenSpec.upto headerPeeksSpec)) headerPeeksUptoCard

/-- THE SECOND FORM's CARD OF 'doorwardlaw04.HeaderApart'. -/
def headerApartUptoCard : Claim7 := { stood := { row := headerApartUptoRow, standIns := [], harness := (true, "721cc24671fd3dd623d0e978025a9f276545c855b19b7dd43e6281a6af8bc837"), looks := false }, kinds := [], alts := [], laidByText := true, laidKinds := [.data, .data], laidTests := true, laidLooks := .later }
def HeaderApartUptoCardSaid : Prop := Claim7.holds Tryd.pinned (.plain (OpenSpec.upto headerApartSpec)) headerApartUptoCard

/-- THE SECOND FORM's CARD OF 'doorwardlaw04.HeaderRest'. -/
def headerRestUptoCard : Claim7 := { stood := { row := headerRestUptoRow, standIns := [], harness := (true, "721cc24671fd3dd623d0e978025a9f276545c855b19b7dd43e6281a6af8bc837"), looks := false }, kinds := [], alts := [], laidByText := true, laidKinds := [.data, .data], laidTests := true, laidLooks := .later }
def HeaderRestUptoCardSaid : Prop := Claim7.holds Tryd.pinned (.plain (OpenSpec.upto headerRestSpec)) headerRestUptoCard
end Rows
end Go.Proofs.YtolbeamphmoimaaDoor
