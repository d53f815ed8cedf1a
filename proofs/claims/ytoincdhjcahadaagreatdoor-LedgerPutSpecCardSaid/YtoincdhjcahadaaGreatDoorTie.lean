/-
  DERIVED. GIVEN WITH THE SEED: THE PROGRAM's TIES (one call each: nine closed facts by the kernel) AND EACH ROW's TIE, after the 31st guide's Derived/Test/Toyas{Tie, Card}.lean. No idea stands in it: it is a product of the set-up. Laid BY PROGRAM, IN A SANDBOX (cutbox-door.mjs). By AI agents, Wed Nov 11 2026. No macro, syntax, notation, axiom, sorry.
-/
import Derived.Test.YtoincdhjcahadaaGreatDoorRows
import Derived.LaidByTextLater
import Derived.SevenTiedAt
import Derived.LaidSub
import Derived.LaidOnce
namespace Go.Proofs.YtoincdhjcahadaaGreatDoor
open Go
set_option maxRecDepth 100000
theorem seatTie1 : Tryz.prog.laidByTextLater [("errors.errorType", Rows.laid_errors_errorType), ("sizar/requests.kinds", Rows.laid_sizar_requests_kinds), ("sizar/rules.kinds", Rows.laid_sizar_rules_kinds)] [.handle, .data, .funcs] true :=
  Program.laidByTextLater_by_one 40 8 25 (by kernel_rfl) (by kernel_rfl) (by kernel_rfl) (by kernel_rfl) (by kernel_rfl) (by kernel_rfl) (fun _ _ => by kernel_rfl)
theorem noOwnUnsafe : Tryz.pinned.checked.prog.headLifts.contains "ownunsafe" = false := by kernel_rfl
theorem tie : Tryz.prog.laidByTextLater [("errors.errorType", Rows.laid_errors_errorType), ("sizar/requests.kinds", Rows.laid_sizar_requests_kinds), ("sizar/rules.kinds", Rows.laid_sizar_rules_kinds)] [.handle, .data, .funcs] true :=
  Program.laidByTextLater.sub seatTie1 ["errors.errorType", "sizar/requests.kinds", "sizar/rules.kinds"] (by kernel_rfl) (by kernel_rfl)
theorem ledgerCheckSpec_row_tie : Rows.ledgerCheckSpecRow.laidByTextAt .later Tryz.pinned [.handle, .data, .funcs] true :=
  OpenClaim.laidByTextAt_later rfl rfl tie noOwnUnsafe
theorem ledgerPutSpec_row_tie : Rows.ledgerPutSpecRow.laidByTextAt .later Tryz.pinned [.handle, .data, .funcs] true :=
  OpenClaim.laidByTextAt_later rfl rfl tie noOwnUnsafe
theorem ledgerMergeSpec_row_tie : Rows.ledgerMergeSpecRow.laidByTextAt .later Tryz.pinned [.handle, .data, .funcs] true :=
  OpenClaim.laidByTextAt_later rfl rfl tie noOwnUnsafe
theorem ledgerMerged_row_tie : Rows.ledgerMergedRow.laidByTextAt .later Tryz.pinned [.handle, .data, .funcs] true :=
  OpenClaim.laidByTextAt_later rfl rfl tie noOwnUnsafe
theorem ledgerThree_row_tie : Rows.ledgerThreeRow.laidByTextAt .later Tryz.pinned [.handle, .data, .funcs] true :=
  OpenClaim.laidByTextAt_later rfl rfl tie noOwnUnsafe
theorem ledgerTimes_row_tie : Rows.ledgerTimesRow.laidByTextAt .later Tryz.pinned [.handle, .data, .funcs] true :=
  OpenClaim.laidByTextAt_later rfl rfl tie noOwnUnsafe
theorem ledgerLast_row_tie : Rows.ledgerLastRow.laidByTextAt .later Tryz.pinned [.handle, .data, .funcs] true :=
  OpenClaim.laidByTextAt_later rfl rfl tie noOwnUnsafe
theorem ledgerCheckSpecUpto_row_tie : Rows.ledgerCheckSpecUptoRow.laidByTextAt .later Tryz.pinned [.handle, .data, .funcs] true :=
  OpenClaim.laidByTextAt_later rfl rfl tie noOwnUnsafe
theorem ledgerPutSpecUpto_row_tie : Rows.ledgerPutSpecUptoRow.laidByTextAt .later Tryz.pinned [.handle, .data, .funcs] true :=
  OpenClaim.laidByTextAt_later rfl rfl tie noOwnUnsafe
theorem ledgerMergeSpecUpto_row_tie : Rows.ledgerMergeSpecUptoRow.laidByTextAt .later Tryz.pinned [.handle, .data, .funcs] true :=
  OpenClaim.laidByTextAt_later rfl rfl tie noOwnUnsafe
theorem ledgerMergedUpto_row_tie : Rows.ledgerMergedUptoRow.laidByTextAt .later Tryz.pinned [.handle, .data, .funcs] true :=
  OpenClaim.laidByTextAt_later rfl rfl tie noOwnUnsafe
theorem ledgerThreeUpto_row_tie : Rows.ledgerThreeUptoRow.laidByTextAt .later Tryz.pinned [.handle, .data, .funcs] true :=
  OpenClaim.laidByTextAt_later rfl rfl tie noOwnUnsafe
theorem ledgerTimesUpto_row_tie : Rows.ledgerTimesUptoRow.laidByTextAt .later Tryz.pinned [.handle, .data, .funcs] true :=
  OpenClaim.laidByTextAt_later rfl rfl tie noOwnUnsafe
theorem ledgerLastUpto_row_tie : Rows.ledgerLastUptoRow.laidByTextAt .later Tryz.pinned [.handle, .data, .funcs] true :=
  OpenClaim.laidByTextAt_later rfl rfl tie noOwnUnsafe
end Go.Proofs.YtoincdhjcahadaaGreatDoor
