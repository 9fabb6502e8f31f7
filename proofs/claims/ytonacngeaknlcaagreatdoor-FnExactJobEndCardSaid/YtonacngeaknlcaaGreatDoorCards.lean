/-
  DERIVED. GIVEN WITH THE SEED: THE CARDS: each row of YtonacngeaknlcaaGreatDoorRows.lean that lists a variable, with what it lists TIED to the program's text (the seventh form; the later family's looks); each row that meets fmt, with fmt's text TOLD by the authors' own Lean function (tested against real Go, not proved from fmt's source: count such statements apart). THE CARD IS WHAT COUNTS. Prove the row's statement (the work); the ties are given (YtonacngeaknlcaaGreatDoorTie.lean); close each card by the builder's one call (the guide's Derived/Test/ToyasCard.lean, 'card_holds'). Laid BY PROGRAM, IN A SANDBOX (cutbox-door.mjs). By AI agents, Wed Nov 11 2026. No macro, syntax, notation, axiom, sorry.
-/
import Derived.Test.YtonacngeaknlcaaGreatDoorRows
import GoSem.ClaimSeven
namespace Go.Proofs.YtonacngeaknlcaaGreatDoor
namespace Rows

/-- THE TIED CARD OF 'laws.FnExactJobEnd'. -/
def fnExactJobEndCard : Claim7 := { stood := { row := fnExactJobEndRow, standIns := [], harness := (true, "593b4e1328041a39b3473b375673f6cec0eb92209c302253bcac7733ee970d80"), looks := false }, kinds := [], alts := [], laidByText := true, laidKinds := [.data, .pinned], laidTests := true, laidLooks := .later }
def FnExactJobEndCardSaid : Prop := Claim7.holds Tryz.pinned (.plain (OpenSpec.ofChange fnExactJobEndSpec)) fnExactJobEndCard

/-- THE SECOND FORM's CARD OF 'laws.FnExactJobEnd'. -/
def fnExactJobEndUptoCard : Claim7 := { stood := { row := fnExactJobEndUptoRow, standIns := [], harness := (true, "593b4e1328041a39b3473b375673f6cec0eb92209c302253bcac7733ee970d80"), looks := false }, kinds := [], alts := [], laidByText := true, laidKinds := [.data, .pinned], laidTests := true, laidLooks := .later }
def FnExactJobEndUptoCardSaid : Prop := Claim7.holds Tryz.pinned (.plain (OpenSpec.upto fnExactJobEndSpec)) fnExactJobEndUptoCard
end Rows
end Go.Proofs.YtonacngeaknlcaaGreatDoor
