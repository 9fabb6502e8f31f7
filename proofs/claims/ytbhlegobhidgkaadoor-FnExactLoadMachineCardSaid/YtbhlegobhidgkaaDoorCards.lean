/-
  DERIVED. GIVEN WITH THE SEED: THE CARDS: each row of YtbhlegobhidgkaaDoorRows.lean that lists a variable, with what it lists TIED to the program's text (the seventh form; the later family's looks); each row that meets fmt, with fmt's text TOLD by the authors' own Lean function (tested against real Go, not proved from fmt's source: count such statements apart). THE CARD IS WHAT COUNTS. Prove the row's statement (the work); the ties are given (YtbhlegobhidgkaaDoorTie.lean); close each card by the builder's one call (the guide's Derived/Test/ToyasCard.lean, 'card_holds'). Laid BY PROGRAM, IN A SANDBOX (cutbox-door.mjs). By AI agents, Wed Nov 11 2026. No macro, syntax, notation, axiom, sorry.
-/
import Derived.Test.YtbhlegobhidgkaaDoorRows
import GoSem.ClaimSeven
namespace Go.Proofs.YtbhlegobhidgkaaDoor
namespace Rows

/-- THE TIED CARD OF 'laws.FnSave'. -/
def fnSaveCard : Claim7 := { stood := { row := fnSaveRow, standIns := [], harness := (true, "8b48fb72126d8dd11080fe75b280d3230b66933db6d504af97fd88b20ce842db"), looks := false }, kinds := [], alts := [], laidByText := true, laidKinds := [.data, .pinned], laidTests := true, laidLooks := .later }
def FnSaveCardSaid : Prop := Claim7.holds Tryd.pinned (.plain (OpenSpec.ofChange fnSaveSpec)) fnSaveCard

/-- THE TIED CARD OF 'laws.FnExactLoadMachine'. -/
def fnExactLoadMachineCard : Claim7 := { stood := { row := fnExactLoadMachineRow, standIns := [], harness := (true, "8b48fb72126d8dd11080fe75b280d3230b66933db6d504af97fd88b20ce842db"), looks := false }, kinds := [], alts := [], laidByText := true, laidKinds := [.data, .pinned], laidTests := true, laidLooks := .later }
def FnExactLoadMachineCardSaid : Prop := Claim7.holds Tryd.pinned (.plain (OpenSpec.ofChange fnExactLoadMachineSpec)) fnExactLoadMachineCard

/-- THE TIED CARD OF 'laws.FnLoad'. -/
def fnLoadCard : Claim7 := { stood := { row := fnLoadRow, standIns := [], harness := (true, "8b48fb72126d8dd11080fe75b280d3230b66933db6d504af97fd88b20ce842db"), looks := false }, kinds := [], alts := [], laidByText := true, laidKinds := [.data, .pinned], laidTests := true, laidLooks := .later }
def FnLoadCardSaid : Prop := Claim7.holds Tryd.pinned (.plain (OpenSpec.ofChange fnLoadSpec)) fnLoadCard

/-- THE SECOND FORM's CARD OF 'laws.FnSave'. -/
def fnSaveUptoCard : Claim7 := { stood := { row := fnSaveUptoRow, standIns := [], harness := (true, "8b48fb72126d8dd11080fe75b280d3230b66933db6d504af97fd88b20ce842db"), looks := false }, kinds := [], alts := [], laidByText := true, laidKinds := [.data, .pinned], laidTests := true, laidLooks := .later }
def FnSaveUptoCardSaid : Prop := Claim7.holds Tryd.pinned (.plain (OpenSpec.upto fnSaveSpec)) fnSaveUptoCard

/-- THE SECOND FORM's CARD OF 'laws.FnExactLoadMachine'. -/
def fnExactLoadMachineUptoCard : Claim7 := { stood := { row := fnExactLoadMachineUptoRow, standIns := [], harness := (true, "8b48fb72126d8dd11080fe75b280d3230b66933db6d504af97fd88b20ce842db"), looks := false }, kinds := [], alts := [], laidByText := true, laidKinds := [.data, .pinned], laidTests := true, laidLooks := .later }
def FnExactLoadMachineUptoCardSaid : Prop := Claim7.holds Tryd.pinned (.plain (OpenSpec.upto fnExactLoadMachineSpec)) fnExactLoadMachineUptoCard

/-- THE SECOND FORM's CARD OF 'laws.FnLoad'. -/
def fnLoadUptoCard : Claim7 := { stood := { row := fnLoadUptoRow, standIns := [], harness := (true, "8b48fb72126d8dd11080fe75b280d3230b66933db6d504af97fd88b20ce842db"), looks := false }, kinds := [], alts := [], laidByText := true, laidKinds := [.data, .pinned], laidTests := true, laidLooks := .later }
def FnLoadUptoCardSaid : Prop := Claim7.holds Tryd.pinned (.plain (OpenSpec.upto fnLoadSpec)) fnLoadUptoCard
end Rows
end Go.Proofs.YtbhlegobhidgkaaDoor
