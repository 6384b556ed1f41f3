/-
  DERIVED. GIVEN WITH THE SEED: THE CARDS: each row of YtcnpiclpdgkngaaDoorRows.lean that lists a variable, with what it lists TIED to the program's text (the seventh form; the later family's looks); each row that meets fmt, with fmt's text TOLD by the authors' own Lean function (tested against real Go, not proved from fmt's source: count such statements apart). THE CARD IS WHAT COUNTS. Prove the row's statement (the work); the ties are given (YtcnpiclpdgkngaaDoorTie.lean); close each card by the builder's one call (the guide's Derived/Test/ToyasCard.lean, 'card_holds'). Laid BY PROGRAM, IN A SANDBOX (cutbox-door.mjs). By AI agents, Wed Nov 11 2026. No macro, syntax, notation, axiom, sorry.
-/
import Derived.Test.YtcnpiclpdgkngaaDoorRows
import GoSem.ClaimSeven
namespace Go.Proofs.YtcnpiclpdgkngaaDoor
namespace Rows

/-- THE TIED CARD OF 'doorwardlaw06.HframePuts'. -/
def hframePutsCard : Claim7 := { stood := { row := hframePutsRow, standIns := [], harness := (true, "78331bbb729e27f9f2f0e979f50ab7111d143b2e7fcf7c7c5e120d7d83ebdc3b"), looks := false }, kinds := [], alts := [], laidByText := true, laidKinds := [.data, .data, .data, .pinned], laidTests := true, laidLooks := .later }
def HframePutsCardSaid : Prop := Claim7.holds Tryd.pinned (.plain (OpenSpec.ofChange hframePutsSpec)) hframePutsCard

/-- THE TIED CARD OF 'doorwardlaw06.HframeNext'. -/
def hframeNextCard : Claim7 := { stood := { row := hframeNextRow, standIns := [], harness := (true, "78331bbb729e27f9f2f0e979f50ab7111d143b2e7fcf7c7c5e120d7d83ebdc3b"), looks := false }, kinds := [], alts := [], laidByText := true, laidKinds := [.data, .data, .data, .pinned], laidTests := true, laidLooks := .later }
def HframeNextCardSaid : Prop := Claim7.holds Tryd.pinned (.plain (OpenSpec.ofChange hframeNextSpec)) hframeNextCard

/-- THE TIED CARD OF 'doorwardlaw06.HframeBack'. -/
def hframeBackCard : Claim7 := { stood := { row := hframeBackRow, standIns := [], harness := (true, "78331bbb729e27f9f2f0e979f50ab7111d143b2e7fcf7c7c5e120d7d83ebdc3b"), looks := false }, kinds := [], alts := [], laidByText := true, laidKinds := [.data, .data, .data, .pinned], laidTests := true, laidLooks := .later }
def HframeBackCardSaid : Prop := Claim7.holds Tryd.pinned (.plain (OpenSpec.ofChange hframeBackSpec)) hframeBackCard

/-- THE TIED CARD OF 'doorwardlaw06.HframeMany'. -/
def hframeManyCard : Claim7 := { stood := { row := hframeManyRow, standIns := [], harness := (true, "78331bbb729e27f9f2f0e979f50ab7111d143b2e7fcf7c7c5e120d7d83ebdc3b"), looks := false }, kinds := [], alts := [], laidByText := true, laidKinds := [.data, .data, .data, .pinned], laidTests := true, laidLooks := .later }
def HframeManyCardSaid : Prop := Claim7.holds Tryd.pinned (.plain (OpenSpec.ofChange hframeManySpec)) hframeManyCard

/-- THE TIED CARD OF 'doorwardlaw06.HframePasses'. -/
def hframePassesCard : Claim7 := { stood := { row := hframePassesRow, standIns := [], harness := (true, "78331bbb729e27f9f2f0e979f50ab7111d143b2e7fcf7c7c5e120d7d83ebdc3b"), looks := false }, kinds := [], alts := [], laidByText := true, laidKinds := [.data, .data, .data, .pinned], laidTests := true, laidLooks := .later }
def HframePassesCardSaid : Prop := Claim7.holds Tryd.pinned (.plain (OpenSpec.ofChange hframePassesSpec)) hframePassesCard

/-- THE TIED CARD OF 'doorwardlaw06.HframeJoins'. -/
def hframeJoinsCard : Claim7 := { stood := { row := hframeJoinsRow, standIns := [], harness := (true, "78331bbb729e27f9f2f0e979f50ab7111d143b2e7fcf7c7c5e120d7d83ebdc3b"), looks := false }, kinds := [], alts := [], laidByText := true, laidKinds := [.data, .data, .data, .pinned], laidTests := true, laidLooks := .later }
def HframeJoinsCardSaid : Prop := Claim7.holds Tryd.pinned (.plain (OpenSpec.ofChange hframeJoinsSpec)) hframeJoinsCard

/-- THE TIED CARD OF 'doorwardlaw06.HframeSettings'. -/
def hframeSettingsCard : Claim7 := { stood := { row := hframeSettingsRow, standIns := [], harness := (true, "78331bbb729e27f9f2f0e979f50ab7111d143b2e7fcf7c7c5e120d7d83ebdc3b"), looks := false }, kinds := [], alts := [], laidByText := true, laidKinds := [.data, .data, .data, .pinned], laidTests := true, laidLooks := .later }
def HframeSettingsCardSaid : Prop := Claim7.holds Tryd.pinned (.plain (OpenSpec.ofChange hframeSettingsSpec)) hframeSettingsCard

/-- THE SECOND FORM's CARD OF 'doorwardlaw06.HframePuts'. -/
def hframePutsUptoCard : Claim7 := { stood := { row := hframePutsUptoRow, standIns := [], harness := (true, "78331bbb729e27f9f2f0e979f50ab7111d143b2e7fcf7c7c5e120d7d83ebdc3b"), looks := false }, kinds := [], alts := [], laidByText := true, laidKinds := [.data, .data, .data, .pinned], laidTests := true, laidLooks := .later }
def HframePutsUptoCardSaid : Prop := Claim7.holds Tryd.pinned (.plain (OpenSpec.upto hframePutsSpec)) hframePutsUptoCard

/-- THE SECOND FORM's CARD OF 'doorwardlaw06.HframeNext'. -/
def hframeNextUptoCard : Claim7 := { stood := { row := hframeNextUptoRow, standIns := [], harness := (true, "78331bbb729e27f9f2f0e979f50ab7111d143b2e7fcf7c7c5e120d7d83ebdc3b"), looks := false }, kinds := [], alts := [], laidByText := true, laidKinds := [.data, .data, .data, .pinned], laidTests := true, laidLooks := .later }
def HframeNextUptoCardSaid : Prop := Claim7.holds Tryd.pinned (.plain (OpenSpec.upto hframeNextSpec)) hframeNextUptoCard

/-- THE SECOND FORM's CARD OF 'doorwardlaw06.HframeBack'. -/
def hframeBackUptoCard : Claim7 := { stood := { row := hframeBackUptoRow, standIns := [], harness := (true, "78331bbb729e27f9f2f0e979f50ab7111d143b2e7fcf7c7c5e120d7d83ebdc3b"), looks := false }, kinds := [], alts := [], laidByText := true, laidKinds := [.data, .data, .data, .pinned], laidTests := true, laidLooks := .later }
def HframeBackUptoCardSaid : Prop := Claim7.holds Tryd.pinned (.plain (OpenSpec.upto hframeBackSpec)) hframeBackUptoCard

/-- THE SECOND FORM's CARD OF 'doorwardlaw06.HframeMany'. -/
def hframeManyUptoCard : Claim7 := { stood := { row := hframeManyUptoRow, standIns := [], harness := (true, "78331bbb729e27f9f2f0e979f50ab7111d143b2e7fcf7c7c5e120d7d83ebdc3b"), looks := false }, kinds := [], alts := [], laidByText := true, laidKinds := [.data, .data, .data, .pinned], laidTests := true, laidLooks := .later }
def HframeManyUptoCardSaid : Prop := Claim7.holds Tryd.pinned (.plain (OpenSpec.upto hframeManySpec)) hframeManyUptoCard

/-- THE SECOND FORM's CARD OF 'doorwardlaw06.HframePasses'. -/
def hframePassesUptoCard : Claim7 := { stood := { row := hframePassesUptoRow, standIns := [], harness := (true, "78331bbb729e27f9f2f0e979f50ab7111d143b2e7fcf7c7c5e120d7d83ebdc3b"), looks := false }, kinds := [], alts := [], laidByText := true, laidKinds := [.data, .data, .data, .pinned], laidTests := true, laidLooks := .later }
def HframePassesUptoCardSaid : Prop := Claim7.holds Tryd.pinned (.plain (OpenSpec.upto hframePassesSpec)) hframePassesUptoCard

/-- THE SECOND FORM's CARD OF 'doorwardlaw06.HframeJoins'. -/
def hframeJoinsUptoCard : Claim7 := { stood := { row := hframeJoinsUptoRow, standIns := [], harness := (true, "78331bbb729e27f9f2f0e979f50ab7111d143b2e7fcf7c7c5e120d7d83ebdc3b"), looks := false }, kinds := [], alts := [], laidByText := true, laidKinds := [.data, .data, .data, .pinned], laidTests := true, laidLooks := .later }
def HframeJoinsUptoCardSaid : Prop := Claim7.holds Tryd.pinned (.plain (OpenSpec.upto hframeJoinsSpec)) hframeJoinsUptoCard

/-- THE SECOND FORM's CARD OF 'doorwardlaw06.HframeSettings'. -/
def hframeSettingsUptoCard : Claim7 := { stood := { row := hframeSettingsUptoRow, standIns := [], harness := (true, "78331bbb729e27f9f2f0e979f50ab7111d143b2e7fcf7c7c5e120d7d83ebdc3b"), looks := false }, kinds := [], alts := [], laidByText := true, laidKinds := [.data, .data, .data, .pinned], laidTests := true, laidLooks := .later }
def HframeSettingsUptoCardSaid : Prop := Claim7.holds Tryd.pinned (.plain (OpenSpec.upto hframeSettingsSpec)) hframeSettingsUptoCard
end Rows
end Go.Proofs.YtcnpiclpdgkngaaDoor
