/-
  DERIVED. GIVEN WITH THE SEED: THE CARDS: each row of YtilebidefogaiaaGreatDoorRows.lean that lists a variable, with what it lists TIED to the program's text (the seventh form; the later family's looks); each row that meets fmt, with fmt's text TOLD by the authors' own Lean function (tested against real Go, not proved from fmt's source: count such statements apart). THE CARD IS WHAT COUNTS. Prove the row's statement (the work); the ties are given (YtilebidefogaiaaGreatDoorTie.lean); close each card by the builder's one call (the guide's Derived/Test/ToyasCard.lean, 'card_holds'). Laid BY PROGRAM, IN A SANDBOX (cutbox-door.mjs). By AI agents, Wed Nov 11 2026. No macro, syntax, notation, axiom, sorry.
-/
import Derived.Test.YtilebidefogaiaaGreatDoorRows
import GoSem.ClaimSeven
namespace Go.Proofs.YtilebidefogaiaaGreatDoor
namespace Rows

/-- THE TIED CARD OF 'sizarlaw16.RecordSituateSpec'. -/
def recordSituateSpecCard : Claim7 := { stood := { row := recordSituateSpecRow, standIns := [], harness := (true, "0e0d849c73e782729e59e18d4414fcbe03e849283da6357c84d966f9dd2c6791"), looks := false }, kinds := [], alts := [], laidByText := true, laidKinds := [.funcs], laidTests := true, laidLooks := .later }
def RecordSituateSpecCardSaid : Prop := Claim7.holds Tryz.pinned (.plain (OpenSpec.ofChange recordSituateSpecSpec)) recordSituateSpecCard

/-- THE TIED CARD OF 'sizarlaw16.RecordPast'. -/
def recordPastCard : Claim7 := { stood := { row := recordPastRow, standIns := [], harness := (true, "0e0d849c73e782729e59e18d4414fcbe03e849283da6357c84d966f9dd2c6791"), looks := false }, kinds := [], alts := [], laidByText := true, laidKinds := [.funcs], laidTests := true, laidLooks := .later }
def RecordPastCardSaid : Prop := Claim7.holds Tryz.pinned (.plain (OpenSpec.ofChange recordPastSpec)) recordPastCard

/-- THE TIED CARD OF 'sizarlaw16.RecordOfSpec'. -/
def recordOfSpecCard : Claim7 := { stood := { row := recordOfSpecRow, standIns := [], harness := (true, "0e0d849c73e782729e59e18d4414fcbe03e849283da6357c84d966f9dd2c6791"), looks := false }, kinds := [], alts := [], laidByText := true, laidKinds := [.funcs], laidTests := true, laidLooks := .later }
def RecordOfSpecCardSaid : Prop := Claim7.holds Tryz.pinned (.plain (OpenSpec.ofChange recordOfSpecSpec)) recordOfSpecCard

/-- THE TIED CARD OF 'sizarlaw16.RecordAdds'. -/
def recordAddsCard : Claim7 := { stood := { row := recordAddsRow, standIns := [], harness := (true, "0e0d849c73e782729e59e18d4414fcbe03e849283da6357c84d966f9dd2c6791"), looks := false }, kinds := [], alts := [], laidByText := true, laidKinds := [.funcs], laidTests := true, laidLooks := .later }
def RecordAddsCardSaid : Prop := Claim7.holds Tryz.pinned (.plain (OpenSpec.ofChange recordAddsSpec)) recordAddsCard

/-- THE TIED CARD OF 'sizarlaw21.StandingSpec'. -/
def standingSpecCard : Claim7 := { stood := { row := standingSpecRow, standIns := [], harness := (true, "0e0d849c73e782729e59e18d4414fcbe03e849283da6357c84d966f9dd2c6791"), looks := false }, kinds := [], alts := [], laidByText := true, laidKinds := [.funcs], laidTests := true, laidLooks := .later }
def StandingSpecCardSaid : Prop := Claim7.holds Tryz.pinned (.plain (OpenSpec.ofChange standingSpecSpec)) standingSpecCard

/-- THE TIED CARD OF 'sizarlaw21.StandingOfSpec'. -/
def standingOfSpecCard : Claim7 := { stood := { row := standingOfSpecRow, standIns := [], harness := (true, "0e0d849c73e782729e59e18d4414fcbe03e849283da6357c84d966f9dd2c6791"), looks := false }, kinds := [], alts := [], laidByText := true, laidKinds := [.funcs], laidTests := true, laidLooks := .later }
def StandingOfSpecCardSaid : Prop := Claim7.holds Tryz.pinned (.plain (OpenSpec.ofChange standingOfSpecSpec)) standingOfSpecCard

/-- THE TIED CARD OF 'sizarlaw21.StandingLast'. -/
def standingLastCard : Claim7 := { stood := { row := standingLastRow, standIns := [], harness := (true, "0e0d849c73e782729e59e18d4414fcbe03e849283da6357c84d966f9dd2c6791"), looks := false }, kinds := [], alts := [], laidByText := true, laidKinds := [.funcs], laidTests := true, laidLooks := .later }
def StandingLastCardSaid : Prop := Claim7.holds Tryz.pinned (.plain (OpenSpec.ofChange standingLastSpec)) standingLastCard

/-- THE TIED CARD OF 'sizarlaw21.StandingMore'. -/
def standingMoreCard : Claim7 := { stood := { row := standingMoreRow, standIns := [], harness := (true, "0e0d849c73e782729e59e18d4414fcbe03e849283da6357c84d966f9dd2c6791"), looks := false }, kinds := [], alts := [], laidByText := true, laidKinds := [.funcs], laidTests := true, laidLooks := .later }
def StandingMoreCardSaid : Prop := Claim7.holds Tryz.pinned (.plain (OpenSpec.ofChange standingMoreSpec)) standingMoreCard

/-- THE TIED CARD OF 'sizarlaw21.StandingOf'. -/
def standingOfCard : Claim7 := { stood := { row := standingOfRow, standIns := [], harness := (true, "0e0d849c73e782729e59e18d4414fcbe03e849283da6357c84d966f9dd2c6791"), looks := false }, kinds := [], alts := [], laidByText := true, laidKinds := [.funcs], laidTests := true, laidLooks := .later }
def StandingOfCardSaid : Prop := Claim7.holds Tryz.pinned (.plain (OpenSpec.ofChange standingOfSpec)) standingOfCard

/-- THE TIED CARD OF 'sizarlaw21.StandingNames'. -/
def standingNamesCard : Claim7 := { stood := { row := standingNamesRow, standIns := [], harness := (true, "0e0d849c73e782729e59e18d4414fcbe03e849283da6357c84d966f9dd2c6791"), looks := false }, kinds := [], alts := [], laidByText := true, laidKinds := [.funcs], laidTests := true, laidLooks := .later }
def StandingNamesCardSaid : Prop := Claim7.holds Tryz.pinned (.plain (OpenSpec.ofChange standingNamesSpec)) standingNamesCard

/-- THE TIED CARD OF 'sizarlaw16.RecordAlike'. -/
def recordAlikeCard : Claim7 := { stood := { row := recordAlikeRow, standIns := [], harness := (true, "0e0d849c73e782729e59e18d4414fcbe03e849283da6357c84d966f9dd2c6791"), looks := false }, kinds := [], alts := [], laidByText := true, laidKinds := [.funcs], laidTests := true, laidLooks := .later }
def RecordAlikeCardSaid : Prop := Claim7.holds Tryz.pinned (.plain (OpenSpec.ofChange recordAlikeSpec)) recordAlikeCard

/-- THE TIED CARD OF 'sizarlaw16.RecordCountedSpec'. -/
def recordCountedSpecCard : Claim7 := { stood := { row := recordCountedSpecRow, standIns := [], harness := (true, "0e0d849c73e782729e59e18d4414fcbe03e849283da6357c84d966f9dd2c6791"), looks := false }, kinds := [], alts := [], laidByText := true, laidKinds := [.funcs], laidTests := true, laidLooks := .later }
def RecordCountedSpecCardSaid : Prop := Claim7.holds Tryz.pinned (.plain (OpenSpec.ofChange recordCountedSpecSpec)) recordCountedSpecCard

/-- THE TIED CARD OF 'sizarlaw16.RecordFits'. -/
def recordFitsCard : Claim7 := { stood := { row := recordFitsRow, standIns := [], harness := (true, "0e0d849c73e782729e59e18d4414fcbe03e849283da6357c84d966f9dd2c6791"), looks := false }, kinds := [], alts := [], laidByText := true, laidKinds := [.funcs], laidTests := true, laidLooks := .later }
def RecordFitsCardSaid : Prop := Claim7.holds Tryz.pinned (.plain (OpenSpec.ofChange recordFitsSpec)) recordFitsCard

/-- THE TIED CARD OF 'sizarlaw21.StandingAlike'. -/
def standingAlikeCard : Claim7 := { stood := { row := standingAlikeRow, standIns := [], harness := (true, "0e0d849c73e782729e59e18d4414fcbe03e849283da6357c84d966f9dd2c6791"), looks := false }, kinds := [], alts := [], laidByText := true, laidKinds := [.funcs], laidTests := true, laidLooks := .later }
def StandingAlikeCardSaid : Prop := Claim7.holds Tryz.pinned (.plain (OpenSpec.ofChange standingAlikeSpec)) standingAlikeCard

/-- THE SECOND FORM's CARD OF 'sizarlaw16.RecordSituateSpec'. -/
def recordSituateSpecUptoCard : Claim7 := { stood := { row := recordSituateSpecUptoRow, standIns := [], harness := (true, "0e0d849c73e782729e59e18d4414fcbe03e849283da6357c84d966f9dd2c6791"), looks := false }, kinds := [], alts := [], laidByText := true, laidKinds := [.funcs], laidTests := true, laidLooks := .later }
def RecordSituateSpecUptoCardSaid : Prop := Claim7.holds Tryz.pinned (.plain (OpenSpec.upto recordSituateSpecSpec)) recordSituateSpecUptoCard

/-- THE SECOND FORM's CARD OF 'sizarlaw16.RecordPast'. -/
def recordPastUptoCard : Claim7 := { stood := { row := recordPastUptoRow, standIns := [], harness := (true, "0e0d849c73e782729e59e18d4414fcbe03e849283da6357c84d966f9dd2c6791"), looks := false }, kinds := [], alts := [], laidByText := true, laidKinds := [.funcs], laidTests := true, laidLooks := .later }
def RecordPastUptoCardSaid : Prop := Claim7.holds Tryz.pinned (.plain (OpenSpec.upto recordPastSpec)) recordPastUptoCard

/-- THE SECOND FORM's CARD OF 'sizarlaw16.RecordOfSpec'. -/
def recordOfSpecUptoCard : Claim7 := { stood := { row := recordOfSpecUptoRow, standIns := [], harness := (true, "0e0d849c73e782729e59e18d4414fcbe03e849283da6357c84d966f9dd2c6791"), looks := false }, kinds := [], alts := [], laidByText := true, laidKinds := [.funcs], laidTests := true, laidLooks := .later }
def RecordOfSpecUptoCardSaid : Prop := Claim7.holds Tryz.pinned (.plain (OpenSpec.upto recordOfSpecSpec)) recordOfSpecUptoCard

/-- THE SECOND FORM's CARD OF 'sizarlaw16.RecordAdds'. -/
def recordAddsUptoCard : Claim7 := { stood := { row := recordAddsUptoRow, standIns := [], harness := (true, "0e0d849c73e782729e59e18d4414fcbe03e849283da6357c84d966f9dd2c6791"), looks := false }, kinds := [], alts := [], laidByText := true, laidKinds := [.funcs], laidTests := true, laidLooks := .later }
def RecordAddsUptoCardSaid : Prop := Claim7.holds Tryz.pinned (.plain (OpenSpec.upto recordAddsSpec)) recordAddsUptoCard

/-- THE SECOND FORM's CARD OF 'sizarlaw21.StandingSpec'. -/
def standingSpecUptoCard : Claim7 := { stood := { row := standingSpecUptoRow, standIns := [], harness := (true, "0e0d849c73e782729e59e18d4414fcbe03e849283da6357c84d966f9dd2c6791"), looks := false }, kinds := [], alts := [], laidByText := true, laidKinds := [.funcs], laidTests := true, laidLooks := .later }
def StandingSpecUptoCardSaid : Prop := Claim7.holds Tryz.pinned (.plain (OpenSpec.upto standingSpecSpec)) standingSpecUptoCard

/-- THE SECOND FORM's CARD OF 'sizarlaw21.StandingOfSpec'. -/
def standingOfSpecUptoCard : Claim7 := { stood := { row := standingOfSpecUptoRow, standIns := [], harness := (true, "0e0d849c73e782729e59e18d4414fcbe03e849283da6357c84d966f9dd2c6791"), looks := false }, kinds := [], alts := [], laidByText := true, laidKinds := [.funcs], laidTests := true, laidLooks := .later }
def StandingOfSpecUptoCardSaid : Prop := Claim7.holds Tryz.pinned (.plain (OpenSpec.upto standingOfSpecSpec)) standingOfSpecUptoCard

/-- THE SECOND FORM's CARD OF 'sizarlaw21.StandingLast'. -/
def standingLastUptoCard : Claim7 := { stood := { row := standingLastUptoRow, standIns := [], harness := (true, "0e0d849c73e782729e59e18d4414fcbe03e849283da6357c84d966f9dd2c6791"), looks := false }, kinds := [], alts := [], laidByText := true, laidKinds := [.funcs], laidTests := true, laidLooks := .later }
def StandingLastUptoCardSaid : Prop := Claim7.holds Tryz.pinned (.plain (OpenSpec.upto standingLastSpec)) standingLastUptoCard

/-- THE SECOND FORM's CARD OF 'sizarlaw21.StandingMore'. -/
def standingMoreUptoCard : Claim7 := { stood := { row := standingMoreUptoRow, standIns := [], harness := (true, "0e0d849c73e782729e59e18d4414fcbe03e849283da6357c84d966f9dd2c6791"), looks := false }, kinds := [], alts := [], laidByText := true, laidKinds := [.funcs], laidTests := true, laidLooks := .later }
def StandingMoreUptoCardSaid : Prop := Claim7.holds Tryz.pinned (.plain (OpenSpec.upto standingMoreSpec)) standingMoreUptoCard

/-- THE SECOND FORM's CARD OF 'sizarlaw21.StandingOf'. -/
def standingOfUptoCard : Claim7 := { stood := { row := standingOfUptoRow, standIns := [], harness := (true, "0e0d849c73e782729e59e18d4414fcbe03e849283da6357c84d966f9dd2c6791"), looks := false }, kinds := [], alts := [], laidByText := true, laidKinds := [.funcs], laidTests := true, laidLooks := .later }
def StandingOfUptoCardSaid : Prop := Claim7.holds Tryz.pinned (.plain (OpenSpec.upto standingOfSpec)) standingOfUptoCard

/-- THE SECOND FORM's CARD OF 'sizarlaw21.StandingNames'. -/
def standingNamesUptoCard : Claim7 := { stood := { row := standingNamesUptoRow, standIns := [], harness := (true, "0e0d849c73e782729e59e18d4414fcbe03e849283da6357c84d966f9dd2c6791"), looks := false }, kinds := [], alts := [], laidByText := true, laidKinds := [.funcs], laidTests := true, laidLooks := .later }
def StandingNamesUptoCardSaid : Prop := Claim7.holds Tryz.pinned (.plain (OpenSpec.upto standingNamesSpec)) standingNamesUptoCard

/-- THE SECOND FORM's CARD OF 'sizarlaw16.RecordAlike'. -/
def recordAlikeUptoCard : Claim7 := { stood := { row := recordAlikeUptoRow, standIns := [], harness := (true, "0e0d849c73e782729e59e18d4414fcbe03e849283da6357c84d966f9dd2c6791"), looks := false }, kinds := [], alts := [], laidByText := true, laidKinds := [.funcs], laidTests := true, laidLooks := .later }
def RecordAlikeUptoCardSaid : Prop := Claim7.holds Tryz.pinned (.plain (OpenSpec.upto recordAlikeSpec)) recordAlikeUptoCard

/-- THE SECOND FORM's CARD OF 'sizarlaw16.RecordCountedSpec'. -/
def recordCountedSpecUptoCard : Claim7 := { stood := { row := recordCountedSpecUptoRow, standIns := [], harness := (true, "0e0d849c73e782729e59e18d4414fcbe03e849283da6357c84d966f9dd2c6791"), looks := false }, kinds := [], alts := [], laidByText := true, laidKinds := [.funcs], laidTests := true, laidLooks := .later }
def RecordCountedSpecUptoCardSaid : Prop := Claim7.holds Tryz.pinned (.plain (OpenSpec.upto recordCountedSpecSpec)) recordCountedSpecUptoCard

/-- THE SECOND FORM's CARD OF 'sizarlaw16.RecordFits'. -/
def recordFitsUptoCard : Claim7 := { stood := { row := recordFitsUptoRow, standIns := [], harness := (true, "0e0d849c73e782729e59e18d4414fcbe03e849283da6357c84d966f9dd2c6791"), looks := false }, kinds := [], alts := [], laidByText := true, laidKinds := [.funcs], laidTests := true, laidLooks := .later }
def RecordFitsUptoCardSaid : Prop := Claim7.holds Tryz.pinned (.plain (OpenSpec.upto recordFitsSpec)) recordFitsUptoCard

/-- THE SECOND FORM's CARD OF 'sizarlaw21.StandingAlike'. -/
def standingAlikeUptoCard : Claim7 := { stood := { row := standingAlikeUptoRow, standIns := [], harness := (true, "0e0d849c73e782729e59e18d4414fcbe03e849283da6357c84d966f9dd2c6791"), looks := false }, kinds := [], alts := [], laidByText := true, laidKinds := [.funcs], laidTests := true, laidLooks := .later }
def StandingAlikeUptoCardSaid : Prop := Claim7.holds Tryz.pinned (.plain (OpenSpec.upto standingAlikeSpec)) standingAlikeUptoCard
end Rows
end Go.Proofs.YtilebidefogaiaaGreatDoor
