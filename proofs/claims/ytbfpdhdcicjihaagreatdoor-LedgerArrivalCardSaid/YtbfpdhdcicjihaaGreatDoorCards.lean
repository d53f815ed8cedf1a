/-
  DERIVED. GIVEN WITH THE SEED: THE CARDS: each row of YtbfpdhdcicjihaaGreatDoorRows.lean that lists a variable, with what it lists TIED to the program's text (the seventh form; the later family's looks); each row that meets fmt, with fmt's text TOLD by the authors' own Lean function (tested against real Go, not proved from fmt's source: count such statements apart). THE CARD IS WHAT COUNTS. Prove the row's statement (the work); the ties are given (YtbfpdhdcicjihaaGreatDoorTie.lean); close each card by the builder's one call (the guide's Derived/Test/ToyasCard.lean, 'card_holds'). Laid BY PROGRAM, IN A SANDBOX (cutbox-door.mjs). By AI agents, Wed Nov 11 2026. No macro, syntax, notation, axiom, sorry.
-/
import Derived.Test.YtbfpdhdcicjihaaGreatDoorRows
import GoSem.ClaimSeven
namespace Go.Proofs.YtbfpdhdcicjihaaGreatDoor
namespace Rows

/-- THE TIED CARD OF 'sizarlaw39.LedgerArrival'. -/
def ledgerArrivalCard : Claim7 := { stood := { row := ledgerArrivalRow, standIns := [], harness := (true, "ffe044e3db219e6aa67f2d21bf7f74f857d5f945a9cf737fa182a2792d098e90"), looks := true }, kinds := [], alts := [], laidByText := true, laidKinds := [.handle, .data, .data, .data, .funcs], laidTests := true, laidLooks := .later }
def LedgerArrivalCardSaid : Prop := Claim7.holds Tryz.pinned (.plain (OpenSpec.ofChange ledgerArrivalSpec)) ledgerArrivalCard

/-- THE SECOND FORM's CARD OF 'sizarlaw39.LedgerArrival'. -/
def ledgerArrivalUptoCard : Claim7 := { stood := { row := ledgerArrivalUptoRow, standIns := [], harness := (true, "ffe044e3db219e6aa67f2d21bf7f74f857d5f945a9cf737fa182a2792d098e90"), looks := true }, kinds := [], alts := [], laidByText := true, laidKinds := [.handle, .data, .data, .data, .funcs], laidTests := true, laidLooks := .later }
def LedgerArrivalUptoCardSaid : Prop := Claim7.holds Tryz.pinned (.plain (OpenSpec.upto ledgerArrivalSpec)) ledgerArrivalUptoCard
end Rows
end Go.Proofs.YtbfpdhdcicjihaaGreatDoor
