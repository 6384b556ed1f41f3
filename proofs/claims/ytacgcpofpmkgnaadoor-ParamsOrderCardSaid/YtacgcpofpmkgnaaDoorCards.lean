/-
  DERIVED. GIVEN WITH THE SEED: THE CARDS: each row of YtacgcpofpmkgnaaDoorRows.lean that lists a variable, with what it lists TIED to the program's text (the seventh form; the later family's looks); each row that meets fmt, with fmt's text TOLD by the authors' own Lean function (tested against real Go, not proved from fmt's source: count such statements apart). THE CARD IS WHAT COUNTS. Prove the row's statement (the work); the ties are given (YtacgcpofpmkgnaaDoorTie.lean); close each card by the builder's one call (the guide's Derived/Test/ToyasCard.lean, 'card_holds'). Laid BY PROGRAM, IN A SANDBOX (cutbox-door.mjs). By AI agents, Wed Nov 11 2026. No macro, syntax, notation, axiom, sorry.
-/
import Derived.Test.YtacgcpofpmkgnaaDoorRows
import GoSem.ClaimSeven
namespace Go.Proofs.YtacgcpofpmkgnaaDoor
namespace Rows

/-- THE TIED CARD OF 'doorwardlaw05.ParamsPut'. -/
def paramsPutCard : Claim7 := { stood := { row := paramsPutRow, standIns := [], harness := (true, "7d3a03905911ee0a7b0466b94878166a2833f944b6e4eaa29fedece918676a43"), looks := false }, kinds := [], alts := [], laidByText := true, laidKinds := [.data, .data], laidTests := true, laidLooks := .later }
def ParamsPutCardSaid : Prop := Claim7.holds Tryd.pinned (.plain (OpenSpec.ofChange paramsPutSpec)) paramsPutCard

/-- THE TIED CARD OF 'doorwardlaw05.ParamsRead'. -/
def paramsReadCard : Claim7 := { stood := { row := paramsReadRow, standIns := [], harness := (true, "7d3a03905911ee0a7b0466b94878166a2833f944b6e4eaa29fedece918676a43"), looks := false }, kinds := [], alts := [], laidByText := true, laidKinds := [.data, .data], laidTests := true, laidLooks := .later }
def ParamsReadCardSaid : Prop := Claim7.holds Tryd.pinned (.plain (OpenSpec.ofChange paramsReadSpec)) paramsReadCard

/-- THE TIED CARD OF 'doorwardlaw05.ParamsBack'. -/
def paramsBackCard : Claim7 := { stood := { row := paramsBackRow, standIns := [], harness := (true, "7d3a03905911ee0a7b0466b94878166a2833f944b6e4eaa29fedece918676a43"), looks := false }, kinds := [], alts := [], laidByText := true, laidKinds := [.data, .data], laidTests := true, laidLooks := .later }
def ParamsBackCardSaid : Prop := Claim7.holds Tryd.pinned (.plain (OpenSpec.ofChange paramsBackSpec)) paramsBackCard

/-- THE TIED CARD OF 'doorwardlaw05.ParamsOrder'. -/
def paramsOrderCard : Claim7 := { stood := { row := paramsOrderRow, standIns := [], harness := (true, "7d3a03905911ee0a7b0466b94878166a2833f944b6e4eaa29fedece918676a43"), looks := false }, kinds := [], alts := [], laidByText := true, laidKinds := [.data, .data], laidTests := true, laidLooks := .later }
def ParamsOrderCardSaid : Prop := Claim7.holds Tryd.pinned (.plain (OpenSpec.ofChange paramsOrderSpec)) paramsOrderCard

/-- THE TIED CARD OF 'doorwardlaw05.ParamsApart'. -/
def paramsApartCard : Claim7 := { stood := { row := paramsApartRow, standIns := [], harness := (true, "7d3a03905911ee0a7b0466b94878166a2833f944b6e4eaa29fedece918676a43"), looks := false }, kinds := [], alts := [], laidByText := true, laidKinds := [.data, .data], laidTests := true, laidLooks := .later }
def ParamsApartCardSaid : Prop := Claim7.holds Tryd.pinned (.plain (OpenSpec.ofChange paramsApartSpec)) paramsApartCard

/-- THE TIED CARD OF 'doorwardlaw05.ParamsTwice'. -/
def paramsTwiceCard : Claim7 := { stood := { row := paramsTwiceRow, standIns := [], harness := (true, "7d3a03905911ee0a7b0466b94878166a2833f944b6e4eaa29fedece918676a43"), looks := false }, kinds := [], alts := [], laidByText := true, laidKinds := [.data, .data], laidTests := true, laidLooks := .later }
def ParamsTwiceCardSaid : Prop := Claim7.holds Tryd.pinned (.plain (OpenSpec.ofChange paramsTwiceSpec)) paramsTwiceCard

/-- THE SECOND FORM's CARD OF 'doorwardlaw05.ParamsPut'. -/
def paramsPutUptoCard : Claim7 := { stood := { row := paramsPutUptoRow, standIns := [], harness := (true, "7d3a03905911ee0a7b0466b94878166a2833f944b6e4eaa29fedece918676a43"), looks := false }, kinds := [], alts := [], laidByText := true, laidKinds := [.data, .data], laidTests := true, laidLooks := .later }
def ParamsPutUptoCardSaid : Prop := Claim7.holds Tryd.pinned (.plain (OpenSpec.upto paramsPutSpec)) paramsPutUptoCard

/-- THE SECOND FORM's CARD OF 'doorwardlaw05.ParamsRead'. -/
def paramsReadUptoCard : Claim7 := { stood := { row := paramsReadUptoRow, standIns := [], harness := (true, "7d3a03905911ee0a7b0466b94878166a2833f944b6e4eaa29fedece918676a43"), looks := false }, kinds := [], alts := [], laidByText := true, laidKinds := [.data, .data], laidTests := true, laidLooks := .later }
def ParamsReadUptoCardSaid : Prop := Claim7.holds Tryd.pinned (.plain (OpenSpec.upto paramsReadSpec)) paramsReadUptoCard

/-- THE SECOND FORM's CARD OF 'doorwardlaw05.ParamsBack'. -/
def paramsBackUptoCard : Claim7 := { stood := { row := paramsBackUptoRow, standIns := [], harness := (true, "7d3a03905911ee0a7b0466b94878166a2833f944b6e4eaa29fedece918676a43"), looks := false }, kinds := [], alts := [], laidByText := true, laidKinds := [.data, .data], laidTests := true, laidLooks := .later }
def ParamsBackUptoCardSaid : Prop := Claim7.holds Tryd.pinned (.plain (OpenSpec.upto paramsBackSpec)) paramsBackUptoCard

/-- THE SECOND FORM's CARD OF 'doorwardlaw05.ParamsOrder'. -/
def paramsOrderUptoCard : Claim7 := { stood := { row := paramsOrderUptoRow, standIns := [], harness := (true, "7d3a03905911ee0a7b0466b94878166a2833f944b6e4eaa29fedece918676a43"), looks := false }, kinds := [], alts := [], laidByText := true, laidKinds := [.data, .data], laidTests := true, laidLooks := .later }
def ParamsOrderUptoCardSaid : Prop := Claim7.holds Tryd.pinned (.plain (OpenSpec.upto paramsOrderSpec)) paramsOrderUptoCard

/-- THE SECOND FORM's CARD OF 'doorwardlaw05.ParamsApart'. -/
def paramsApartUptoCard : Claim7 := { stood := { row := paramsApartUptoRow, standIns := [], harness := (true, "7d3a03905911ee0a7b0466b94878166a2833f944b6e4eaa29fedece918676a43"), looks := false }, kinds := [], alts := [], laidByText := true, laidKinds := [.data, .data], laidTests := true, laidLooks := .later }
def ParamsApartUptoCardSaid : Prop := Claim7.holds Tryd.pinned (.plain (OpenSpec.upto paramsApartSpec)) paramsApartUptoCard

/-- THE SECOND FORM's CARD OF 'doorwardlaw05.ParamsTwice'. -/
def paramsTwiceUptoCard : Claim7 := { stood := { row := paramsTwiceUptoRow, standIns := [], harness := (true, "7d3a03905911ee0a7b0466b94878166a2833f944b6e4eaa29fedece918676a43"), looks := false }, kinds := [], alts := [], laidByText := true, laidKinds := [.data, .data], laidTests := true, laidLooks := .later }
def ParamsTwiceUptoCardSaid : Prop := Claim7.holds Tryd.pinned (.plain (OpenSpec.upto paramsTwiceSpec)) paramsTwiceUptoCard
end Rows
end Go.Proofs.YtacgcpofpmkgnaaDoor
