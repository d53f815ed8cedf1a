/-
  DERIVED. GIVEN WITH THE SEED: THE CARDS: each row of YtgalafpinkflfaaGreatDoorRows.lean that lists a variable, with what it lists TIED to the program's text (the seventh form; the later family's looks); each row that meets fmt, with fmt's text TOLD by the authors' own Lean function (tested against real Go, not proved from fmt's source: count such statements apart). THE CARD IS WHAT COUNTS. Prove the row's statement (the work); the ties are given (YtgalafpinkflfaaGreatDoorTie.lean); close each card by the builder's one call (the guide's Derived/Test/ToyasCard.lean, 'card_holds'). Laid BY PROGRAM, IN A SANDBOX (cutbox-door.mjs). By AI agents, Wed Nov 11 2026. No macro, syntax, notation, axiom, sorry.
-/
import Derived.Test.YtgalafpinkflfaaGreatDoorRows
import GoSem.ClaimSeven
namespace Go.Proofs.YtgalafpinkflfaaGreatDoor
namespace Rows

/-- THE TIED CARD OF 'sizarlaw34.QuestionsAnswerSpec'. -/
def questionsAnswerSpecCard : Claim7 := { stood := { row := questionsAnswerSpecRow, standIns := [], harness := (true, "edcf3453790306c5dc312734e7ae73c38a3dff9292868e0c06ceb00dd6d0149e"), looks := true }, kinds := [], alts := [], laidByText := true, laidKinds := [.funcs], laidTests := true, laidLooks := .later }
def QuestionsAnswerSpecCardSaid : Prop := Claim7.holds Tryz.pinned (.plain (OpenSpec.ofChange questionsAnswerSpecSpec)) questionsAnswerSpecCard

/-- THE TIED CARD OF 'sizarlaw34.QuestionsParts'. -/
def questionsPartsCard : Claim7 := { stood := { row := questionsPartsRow, standIns := [], harness := (true, "edcf3453790306c5dc312734e7ae73c38a3dff9292868e0c06ceb00dd6d0149e"), looks := true }, kinds := [], alts := [], laidByText := true, laidKinds := [.funcs], laidTests := true, laidLooks := .later }
def QuestionsPartsCardSaid : Prop := Claim7.holds Tryz.pinned (.plain (OpenSpec.ofChange questionsPartsSpec)) questionsPartsCard

/-- THE TIED CARD OF 'sizarlaw34.QuestionsLater'. -/
def questionsLaterCard : Claim7 := { stood := { row := questionsLaterRow, standIns := [], harness := (true, "edcf3453790306c5dc312734e7ae73c38a3dff9292868e0c06ceb00dd6d0149e"), looks := true }, kinds := [], alts := [], laidByText := true, laidKinds := [.funcs], laidTests := true, laidLooks := .later }
def QuestionsLaterCardSaid : Prop := Claim7.holds Tryz.pinned (.plain (OpenSpec.ofChange questionsLaterSpec)) questionsLaterCard

/-- THE TIED CARD OF 'sizarlaw34.QuestionsNow'. -/
def questionsNowCard : Claim7 := { stood := { row := questionsNowRow, standIns := [], harness := (true, "edcf3453790306c5dc312734e7ae73c38a3dff9292868e0c06ceb00dd6d0149e"), looks := true }, kinds := [], alts := [], laidByText := true, laidKinds := [.funcs], laidTests := true, laidLooks := .later }
def QuestionsNowCardSaid : Prop := Claim7.holds Tryz.pinned (.plain (OpenSpec.ofChange questionsNowSpec)) questionsNowCard

/-- THE TIED CARD OF 'sizarlaw34.QuestionsAlike'. -/
def questionsAlikeCard : Claim7 := { stood := { row := questionsAlikeRow, standIns := [], harness := (true, "edcf3453790306c5dc312734e7ae73c38a3dff9292868e0c06ceb00dd6d0149e"), looks := true }, kinds := [], alts := [], laidByText := true, laidKinds := [.funcs], laidTests := true, laidLooks := .later }
def QuestionsAlikeCardSaid : Prop := Claim7.holds Tryz.pinned (.plain (OpenSpec.ofChange questionsAlikeSpec)) questionsAlikeCard

/-- THE SECOND FORM's CARD OF 'sizarlaw34.QuestionsAnswerSpec'. -/
def questionsAnswerSpecUptoCard : Claim7 := { stood := { row := questionsAnswerSpecUptoRow, standIns := [], harness := (true, "edcf3453790306c5dc312734e7ae73c38a3dff9292868e0c06ceb00dd6d0149e"), looks := true }, kinds := [], alts := [], laidByText := true, laidKinds := [.funcs], laidTests := true, laidLooks := .later }
def QuestionsAnswerSpecUptoCardSaid : Prop := Claim7.holds Tryz.pinned (.plain (OpenSpec.upto questionsAnswerSpecSpec)) questionsAnswerSpecUptoCard

/-- THE SECOND FORM's CARD OF 'sizarlaw34.QuestionsParts'. -/
def questionsPartsUptoCard : Claim7 := { stood := { row := questionsPartsUptoRow, standIns := [], harness := (true, "edcf3453790306c5dc312734e7ae73c38a3dff9292868e0c06ceb00dd6d0149e"), looks := true }, kinds := [], alts := [], laidByText := true, laidKinds := [.funcs], laidTests := true, laidLooks := .later }
def QuestionsPartsUptoCardSaid : Prop := Claim7.holds Tryz.pinned (.plain (OpenSpec.upto questionsPartsSpec)) questionsPartsUptoCard

/-- THE SECOND FORM's CARD OF 'sizarlaw34.QuestionsLater'. -/
def questionsLaterUptoCard : Claim7 := { stood := { row := questionsLaterUptoRow, standIns := [], harness := (true, "edcf3453790306c5dc312734e7ae73c38a3dff9292868e0c06ceb00dd6d0149e"), looks := true }, kinds := [], alts := [], laidByText := true, laidKinds := [.funcs], laidTests := true, laidLooks := .later }
def QuestionsLaterUptoCardSaid : Prop := Claim7.holds Tryz.pinned (.plain (OpenSpec.upto questionsLaterSpec)) questionsLaterUptoCard

/-- THE SECOND FORM's CARD OF 'sizarlaw34.QuestionsNow'. -/
def questionsNowUptoCard : Claim7 := { stood := { row := questionsNowUptoRow, standIns := [], harness := (true, "edcf3453790306c5dc312734e7ae73c38a3dff9292868e0c06ceb00dd6d0149e"), looks := true }, kinds := [], alts := [], laidByText := true, laidKinds := [.funcs], laidTests := true, laidLooks := .later }
def QuestionsNowUptoCardSaid : Prop := Claim7.holds Tryz.pinned (.plain (OpenSpec.upto questionsNowSpec)) questionsNowUptoCard

/-- THE SECOND FORM's CARD OF 'sizarlaw34.QuestionsAlike'. -/
def questionsAlikeUptoCard : Claim7 := { stood := { row := questionsAlikeUptoRow, standIns := [], harness := (true, "edcf3453790306c5dc312734e7ae73c38a3dff9292868e0c06ceb00dd6d0149e"), looks := true }, kinds := [], alts := [], laidByText := true, laidKinds := [.funcs], laidTests := true, laidLooks := .later }
def QuestionsAlikeUptoCardSaid : Prop := Claim7.holds Tryz.pinned (.plain (OpenSpec.upto questionsAlikeSpec)) questionsAlikeUptoCard
end Rows
end Go.Proofs.YtgalafpinkflfaaGreatDoor
