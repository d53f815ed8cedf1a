/-
  DERIVED. GIVEN WITH THE SEED: THE CARDS: each row of YtafcgfmoekjanaaGreatDoorRows.lean that lists a variable, with what it lists TIED to the program's text (the seventh form; the later family's looks); each row that meets fmt, with fmt's text TOLD by the authors' own Lean function (tested against real Go, not proved from fmt's source: count such statements apart). THE CARD IS WHAT COUNTS. Prove the row's statement (the work); the ties are given (YtafcgfmoekjanaaGreatDoorTie.lean); close each card by the builder's one call (the guide's Derived/Test/ToyasCard.lean, 'card_holds'). Laid BY PROGRAM, IN A SANDBOX (cutbox-door.mjs). By AI agents, Wed Nov 11 2026. No macro, syntax, notation, axiom, sorry.
-/
import Derived.Test.YtafcgfmoekjanaaGreatDoorRows
import GoSem.ClaimSeven
namespace Go.Proofs.YtafcgfmoekjanaaGreatDoor
namespace Rows

/-- THE TIED CARD OF 'sizarlaw34.QuestionsCheckSpec'. -/
def questionsCheckSpecCard : Claim7 := { stood := { row := questionsCheckSpecRow, standIns := [], harness := (true, "0240c4b4faba7733dc439a4b3947834d2d7840866075db6d1327acedda34e426"), looks := true }, kinds := [], alts := [], laidByText := true, laidKinds := [.funcs], laidTests := true, laidLooks := .later }
def QuestionsCheckSpecCardSaid : Prop := Claim7.holds Tryz.pinned (.plain (OpenSpec.ofChange questionsCheckSpecSpec)) questionsCheckSpecCard

/-- THE TIED CARD OF 'sizarlaw34.QuestionsOrder'. -/
def questionsOrderCard : Claim7 := { stood := { row := questionsOrderRow, standIns := [], harness := (true, "0240c4b4faba7733dc439a4b3947834d2d7840866075db6d1327acedda34e426"), looks := true }, kinds := [], alts := [], laidByText := true, laidKinds := [.funcs], laidTests := true, laidLooks := .later }
def QuestionsOrderCardSaid : Prop := Claim7.holds Tryz.pinned (.plain (OpenSpec.ofChange questionsOrderSpec)) questionsOrderCard

/-- THE SECOND FORM's CARD OF 'sizarlaw34.QuestionsCheckSpec'. -/
def questionsCheckSpecUptoCard : Claim7 := { stood := { row := questionsCheckSpecUptoRow, standIns := [], harness := (true, "0240c4b4faba7733dc439a4b3947834d2d7840866075db6d1327acedda34e426"), looks := true }, kinds := [], alts := [], laidByText := true, laidKinds := [.funcs], laidTests := true, laidLooks := .later }
def QuestionsCheckSpecUptoCardSaid : Prop := Claim7.holds Tryz.pinned (.plain (OpenSpec.upto questionsCheckSpecSpec)) questionsCheckSpecUptoCard

/-- THE SECOND FORM's CARD OF 'sizarlaw34.QuestionsOrder'. -/
def questionsOrderUptoCard : Claim7 := { stood := { row := questionsOrderUptoRow, standIns := [], harness := (true, "0240c4b4faba7733dc439a4b3947834d2d7840866075db6d1327acedda34e426"), looks := true }, kinds := [], alts := [], laidByText := true, laidKinds := [.funcs], laidTests := true, laidLooks := .later }
def QuestionsOrderUptoCardSaid : Prop := Claim7.holds Tryz.pinned (.plain (OpenSpec.upto questionsOrderSpec)) questionsOrderUptoCard
end Rows
end Go.Proofs.YtafcgfmoekjanaaGreatDoor
