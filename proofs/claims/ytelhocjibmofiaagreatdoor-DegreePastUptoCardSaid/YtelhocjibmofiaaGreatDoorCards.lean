/-
  DERIVED. GIVEN WITH THE SEED: THE CARDS: each row of YtelhocjibmofiaaGreatDoorRows.lean that lists a variable, with what it lists TIED to the program's text (the seventh form; the later family's looks); each row that meets fmt, with fmt's text TOLD by the authors' own Lean function (tested against real Go, not proved from fmt's source: count such statements apart). THE CARD IS WHAT COUNTS. Prove the row's statement (the work); the ties are given (YtelhocjibmofiaaGreatDoorTie.lean); close each card by the builder's one call (the guide's Derived/Test/ToyasCard.lean, 'card_holds'). Laid BY PROGRAM, IN A SANDBOX (cutbox-door.mjs). By AI agents, Wed Nov 11 2026. No macro, syntax, notation, axiom, sorry.
-/
import Derived.Test.YtelhocjibmofiaaGreatDoorRows
import GoSem.ClaimSeven
namespace Go.Proofs.YtelhocjibmofiaaGreatDoor
namespace Rows

/-- THE TIED CARD OF 'sizarlaw19.DegreeOfSpec'. -/
def degreeOfSpecCard : Claim7 := { stood := { row := degreeOfSpecRow, standIns := [], harness := (true, "9b296b57557ca87119ae556d65cb5e2400e842e10f577953510402e9ea723956"), looks := true }, kinds := [], alts := [], laidByText := true, laidKinds := [.funcs], laidTests := true, laidLooks := .later }
def DegreeOfSpecCardSaid : Prop := Claim7.holds Tryz.pinned (.plain (OpenSpec.ofChange degreeOfSpecSpec)) degreeOfSpecCard

/-- THE TIED CARD OF 'sizarlaw19.DegreePast'. -/
def degreePastCard : Claim7 := { stood := { row := degreePastRow, standIns := [], harness := (true, "9b296b57557ca87119ae556d65cb5e2400e842e10f577953510402e9ea723956"), looks := true }, kinds := [], alts := [], laidByText := true, laidKinds := [.funcs], laidTests := true, laidLooks := .later }
def DegreePastCardSaid : Prop := Claim7.holds Tryz.pinned (.plain (OpenSpec.ofChange degreePastSpec)) degreePastCard

/-- THE SECOND FORM's CARD OF 'sizarlaw19.DegreeOfSpec'. -/
def degreeOfSpecUptoCard : Claim7 := { stood := { row := degreeOfSpecUptoRow, standIns := [], harness := (true, "9b296b57557ca87119ae556d65cb5e2400e842e10f577953510402e9ea723956"), looks := true }, kinds := [], alts := [], laidByText := true, laidKinds := [.funcs], laidTests := true, laidLooks := .later }
def DegreeOfSpecUptoCardSaid : Prop := Claim7.holds Tryz.pinned (.plain (OpenSpec.upto degreeOfSpecSpec)) degreeOfSpecUptoCard

/-- THE SECOND FORM's CARD OF 'sizarlaw19.DegreePast'. -/
def degreePastUptoCard : Claim7 := { stood := { row := degreePastUptoRow, standIns := [], harness := (true, "9b296b57557ca87119ae556d65cb5e2400e842e10f577953510402e9ea723956"), looks := true }, kinds := [], alts := [], laidByText := true, laidKinds := [.funcs], laidTests := true, laidLooks := .later }
def DegreePastUptoCardSaid : Prop := Claim7.holds Tryz.pinned (.plain (OpenSpec.upto degreePastSpec)) degreePastUptoCard
end Rows
end Go.Proofs.YtelhocjibmofiaaGreatDoor
