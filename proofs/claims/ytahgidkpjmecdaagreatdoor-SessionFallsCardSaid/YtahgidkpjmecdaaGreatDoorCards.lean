/-
  DERIVED. GIVEN WITH THE SEED: THE CARDS: each row of YtahgidkpjmecdaaGreatDoorRows.lean that lists a variable, with what it lists TIED to the program's text (the seventh form; the later family's looks); each row that meets fmt, with fmt's text TOLD by the authors' own Lean function (tested against real Go, not proved from fmt's source: count such statements apart). THE CARD IS WHAT COUNTS. Prove the row's statement (the work); the ties are given (YtahgidkpjmecdaaGreatDoorTie.lean); close each card by the builder's one call (the guide's Derived/Test/ToyasCard.lean, 'card_holds'). Laid BY PROGRAM, IN A SANDBOX (cutbox-door.mjs). By AI agents, Wed Nov 11 2026. No macro, syntax, notation, axiom, sorry.
-/
import Derived.Test.YtahgidkpjmecdaaGreatDoorRows
import GoSem.ClaimSeven
namespace Go.Proofs.YtahgidkpjmecdaaGreatDoor
namespace Rows

/-- THE TIED CARD OF 'doorwardlaw22.SessionOnce'. -/
def sessionOnceCard : Claim7 := { stood := { row := sessionOnceRow, standIns := [], harness := (true, "9b4e17db5c1093436a4a70bd28e6524612047c81415fb3af9bd4b270a7fa14d4"), looks := true }, kinds := [], alts := [], laidByText := true, laidKinds := [.data, .data, .data, .pinned], laidTests := true, laidLooks := .later }
def SessionOnceCardSaid : Prop := Claim7.holds Tryz.pinned (.plain (OpenSpec.ofChange sessionOnceSpec)) sessionOnceCard

/-- THE TIED CARD OF 'doorwardlaw22.SessionAll'. -/
def sessionAllCard : Claim7 := { stood := { row := sessionAllRow, standIns := [], harness := (true, "9b4e17db5c1093436a4a70bd28e6524612047c81415fb3af9bd4b270a7fa14d4"), looks := true }, kinds := [], alts := [], laidByText := true, laidKinds := [.data, .data, .data, .pinned], laidTests := true, laidLooks := .later }
def SessionAllCardSaid : Prop := Claim7.holds Tryz.pinned (.plain (OpenSpec.ofChange sessionAllSpec)) sessionAllCard

/-- THE TIED CARD OF 'doorwardlaw22.SessionFalls'. -/
def sessionFallsCard : Claim7 := { stood := { row := sessionFallsRow, standIns := [], harness := (true, "9b4e17db5c1093436a4a70bd28e6524612047c81415fb3af9bd4b270a7fa14d4"), looks := true }, kinds := [], alts := [], laidByText := true, laidKinds := [.data, .data, .data, .pinned], laidTests := true, laidLooks := .later }
def SessionFallsCardSaid : Prop := Claim7.holds Tryz.pinned (.plain (OpenSpec.ofChange sessionFallsSpec)) sessionFallsCard

/-- THE TIED CARD OF 'doorwardlaw22.SessionSafe'. -/
def sessionSafeCard : Claim7 := { stood := { row := sessionSafeRow, standIns := [], harness := (true, "9b4e17db5c1093436a4a70bd28e6524612047c81415fb3af9bd4b270a7fa14d4"), looks := true }, kinds := [], alts := [], laidByText := true, laidKinds := [.data, .data, .data, .pinned], laidTests := true, laidLooks := .later }
def SessionSafeCardSaid : Prop := Claim7.holds Tryz.pinned (.plain (OpenSpec.ofChange sessionSafeSpec)) sessionSafeCard

/-- THE SECOND FORM's CARD OF 'doorwardlaw22.SessionOnce'. -/
def sessionOnceUptoCard : Claim7 := { stood := { row := sessionOnceUptoRow, standIns := [], harness := (true, "9b4e17db5c1093436a4a70bd28e6524612047c81415fb3af9bd4b270a7fa14d4"), looks := true }, kinds := [], alts := [], laidByText := true, laidKinds := [.data, .data, .data, .pinned], laidTests := true, laidLooks := .later }
def SessionOnceUptoCardSaid : Prop := Claim7.holds Tryz.pinned (.plain (OpenSpec.upto sessionOnceSpec)) sessionOnceUptoCard

/-- THE SECOND FORM's CARD OF 'doorwardlaw22.SessionAll'. -/
def sessionAllUptoCard : Claim7 := { stood := { row := sessionAllUptoRow, standIns := [], harness := (true, "9b4e17db5c1093436a4a70bd28e6524612047c81415fb3af9bd4b270a7fa14d4"), looks := true }, kinds := [], alts := [], laidByText := true, laidKinds := [.data, .data, .data, .pinned], laidTests := true, laidLooks := .later }
def SessionAllUptoCardSaid : Prop := Claim7.holds Tryz.pinned (.plain (OpenSpec.upto sessionAllSpec)) sessionAllUptoCard

/-- THE SECOND FORM's CARD OF 'doorwardlaw22.SessionFalls'. -/
def sessionFallsUptoCard : Claim7 := { stood := { row := sessionFallsUptoRow, standIns := [], harness := (true, "9b4e17db5c1093436a4a70bd28e6524612047c81415fb3af9bd4b270a7fa14d4"), looks := true }, kinds := [], alts := [], laidByText := true, laidKinds := [.data, .data, .data, .pinned], laidTests := true, laidLooks := .later }
def SessionFallsUptoCardSaid : Prop := Claim7.holds Tryz.pinned (.plain (OpenSpec.upto sessionFallsSpec)) sessionFallsUptoCard

/-- THE SECOND FORM's CARD OF 'doorwardlaw22.SessionSafe'. -/
def sessionSafeUptoCard : Claim7 := { stood := { row := sessionSafeUptoRow, standIns := [], harness := (true, "9b4e17db5c1093436a4a70bd28e6524612047c81415fb3af9bd4b270a7fa14d4"), looks := true }, kinds := [], alts := [], laidByText := true, laidKinds := [.data, .data, .data, .pinned], laidTests := true, laidLooks := .later }
def SessionSafeUptoCardSaid : Prop := Claim7.holds Tryz.pinned (.plain (OpenSpec.upto sessionSafeSpec)) sessionSafeUptoCard
end Rows
end Go.Proofs.YtahgidkpjmecdaaGreatDoor
