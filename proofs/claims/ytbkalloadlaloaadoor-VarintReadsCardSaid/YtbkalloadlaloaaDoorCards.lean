/-
  DERIVED. GIVEN WITH THE SEED: THE CARDS: each row of YtbkalloadlaloaaDoorRows.lean that lists a variable, with what it lists TIED to the program's text (the seventh form; the later family's looks); each row that meets fmt, with fmt's text TOLD by the authors' own Lean function (tested against real Go, not proved from fmt's source: count such statements apart). THE CARD IS WHAT COUNTS. Prove the row's statement (the work); the ties are given (YtbkalloadlaloaaDoorTie.lean); close each card by the builder's one call (the guide's Derived/Test/ToyasCard.lean, 'card_holds'). Laid BY PROGRAM, IN A SANDBOX (cutbox-door.mjs). By AI agents, Wed Nov 11 2026. No macro, syntax, notation, axiom, sorry.
-/
import Derived.Test.YtbkalloadlaloaaDoorRows
import GoSem.ClaimSeven
namespace Go.Proofs.YtbkalloadlaloaaDoor
namespace Rows

/-- THE TIED CARD OF 'doorwardlaw01.VarintPuts'. -/
def varintPutsCard : Claim7 := { stood := { row := varintPutsRow, standIns := [], harness := (true, "fd5b840f5550bd1c7d17faed7433a175c5838aaa38848a359a14dd6c5f8389cd"), looks := false }, kinds := [], alts := [], laidByText := true, laidKinds := [.data, .data], laidTests := true, laidLooks := .later }
def VarintPutsCardSaid : Prop := Claim7.holds Tryd.pinned (.plain (OpenSpec.ofChange varintPutsSpec)) varintPutsCard

/-- THE TIED CARD OF 'doorwardlaw01.VarintReads'. -/
def varintReadsCard : Claim7 := { stood := { row := varintReadsRow, standIns := [], harness := (true, "fd5b840f5550bd1c7d17faed7433a175c5838aaa38848a359a14dd6c5f8389cd"), looks := false }, kinds := [], alts := [], laidByText := true, laidKinds := [.data, .data], laidTests := true, laidLooks := .later }
def VarintReadsCardSaid : Prop := Claim7.holds Tryd.pinned (.plain (OpenSpec.ofChange varintReadsSpec)) varintReadsCard

/-- THE TIED CARD OF 'doorwardlaw01.VarintBack'. -/
def varintBackCard : Claim7 := { stood := { row := varintBackRow, standIns := [], harness := (true, "fd5b840f5550bd1c7d17faed7433a175c5838aaa38848a359a14dd6c5f8389cd"), looks := false }, kinds := [], alts := [], laidByText := true, laidKinds := [.data, .data], laidTests := true, laidLooks := .later }
def VarintBackCardSaid : Prop := Claim7.holds Tryd.pinned (.plain (OpenSpec.ofChange varintBackSpec)) varintBackCard

/-- THE TIED CARD OF 'doorwardlaw01.VarintOrder'. -/
def varintOrderCard : Claim7 := { stood := { row := varintOrderRow, standIns := [], harness := (true, "fd5b840f5550bd1c7d17faed7433a175c5838aaa38848a359a14dd6c5f8389cd"), looks := false }, kinds := [], alts := [], laidByText := true, laidKinds := [.data, .data], laidTests := true, laidLooks := .later }
def VarintOrderCardSaid : Prop := Claim7.holds Tryd.pinned (.plain (OpenSpec.ofChange varintOrderSpec)) varintOrderCard

/-- THE TIED CARD OF 'doorwardlaw01.VarintMany'. -/
def varintManyCard : Claim7 := { stood := { row := varintManyRow, standIns := [], harness := (true, "fd5b840f5550bd1c7d17faed7433a175c5838aaa38848a359a14dd6c5f8389cd"), looks := false }, kinds := [], alts := [], laidByText := true, laidKinds := [.data, .data], laidTests := true, laidLooks := .later }
def VarintManyCardSaid : Prop := Claim7.holds Tryd.pinned (.plain (OpenSpec.ofChange varintManySpec)) varintManyCard

/-- THE SECOND FORM's CARD OF 'doorwardlaw01.VarintPuts'. -/
def varintPutsUptoCard : Claim7 := { stood := { row := varintPutsUptoRow, standIns := [], harness := (true, "fd5b840f5550bd1c7d17faed7433a175c5838aaa38848a359a14dd6c5f8389cd"), looks := false }, kinds := [], alts := [], laidByText := true, laidKinds := [.data, .data], laidTests := true, laidLooks := .later }
def VarintPutsUptoCardSaid : Prop := Claim7.holds Tryd.pinned (.plain (OpenSpec.upto varintPutsSpec)) varintPutsUptoCard

/-- THE SECOND FORM's CARD OF 'doorwardlaw01.VarintReads'. -/
def varintReadsUptoCard : Claim7 := { stood := { row := varintReadsUptoRow, standIns := [], harness := (true, "fd5b840f5550bd1c7d17faed7433a175c5838aaa38848a359a14dd6c5f8389cd"), looks := false }, kinds := [], alts := [], laidByText := true, laidKinds := [.data, .data], laidTests := true, laidLooks := .later }
def VarintReadsUptoCardSaid : Prop := Claim7.holds Tryd.pinned (.plain (OpenSpec.upto varintReadsSpec)) varintReadsUptoCard

/-- THE SECOND FORM's CARD OF 'doorwardlaw01.VarintBack'. -/
def varintBackUptoCard : Claim7 := { stood := { row := varintBackUptoRow, standIns := [], harness := (true, "fd5b840f5550bd1c7d17faed7433a175c5838aaa38848a359a14dd6c5f8389cd"), looks := false }, kinds := [], alts := [], laidByText := true, laidKinds := [.data, .data], laidTests := true, laidLooks := .later }
def VarintBackUptoCardSaid : Prop := Claim7.holds Tryd.pinned (.plain (OpenSpec.upto varintBackSpec)) varintBackUptoCard

/-- THE SECOND FORM's CARD OF 'doorwardlaw01.VarintOrder'. -/
def varintOrderUptoCard : Claim7 := { stood := { row := varintOrderUptoRow, standIns := [], harness := (true, "fd5b840f5550bd1c7d17faed7433a175c5838aaa38848a359a14dd6c5f8389cd"), looks := false }, kinds := [], alts := [], laidByText := true, laidKinds := [.data, .data], laidTests := true, laidLooks := .later }
def VarintOrderUptoCardSaid : Prop := Claim7.holds Tryd.pinned (.plain (OpenSpec.upto varintOrderSpec)) varintOrderUptoCard

/-- THE SECOND FORM's CARD OF 'doorwardlaw01.VarintMany'. -/
def varintManyUptoCard : Claim7 := { stood := { row := varintManyUptoRow, standIns := [], harness := (true, "fd5b840f5550bd1c7d17faed7433a175c5838aaa38848a359a14dd6c5f8389cd"), looks := false }, kinds := [], alts := [], laidByText := true, laidKinds := [.data, .data], laidTests := true, laidLooks := .later }
def VarintManyUptoCardSaid : Prop := Claim7.holds Tryd.pinned (.plain (OpenSpec.upto varintManySpec)) varintManyUptoCard
end Rows
end Go.Proofs.YtbkalloadlaloaaDoor
