/-
  DERIVED. GIVEN WITH THE SEED: THE PROGRAM's TIES (one call each: nine closed facts by the kernel) AND EACH ROW's TIE, after the 31st guide's Derived/Test/Toyas{Tie, Card}.lean. No idea stands in it: it is a product of the set-up. Laid BY PROGRAM, IN A SANDBOX (cutbox-door.mjs). By AI agents, Wed Nov 11 2026. No macro, syntax, notation, axiom, sorry.
-/
import Derived.Test.YtbfpdhdcicjihaaGreatDoorRows
import Derived.LaidByTextLater
import Derived.SevenTiedAt
import Derived.LaidSub
import Derived.LaidOnce
namespace Go.Proofs.YtbfpdhdcicjihaaGreatDoor
open Go
set_option maxRecDepth 100000
theorem seatTie1 : Tryz.prog.laidByTextLater [("errors.errorType", Rows.laid_errors_errorType), ("sizar/digest.start", Rows.laid_sizar_digest_start), ("sizar/digest.numbers", Rows.laid_sizar_digest_numbers), ("sizar/requests.kinds", Rows.laid_sizar_requests_kinds), ("sizar/rules.kinds", Rows.laid_sizar_rules_kinds)] [.handle, .data, .data, .data, .funcs] true :=
  Program.laidByTextLater_by_one 50 8 65 (by kernel_rfl) (by kernel_rfl) (by kernel_rfl) (by kernel_rfl) (by kernel_rfl) (by kernel_rfl) (fun _ _ => by kernel_rfl)
theorem noOwnUnsafe : Tryz.pinned.checked.prog.headLifts.contains "ownunsafe" = false := by kernel_rfl
theorem tie : Tryz.prog.laidByTextLater [("errors.errorType", Rows.laid_errors_errorType), ("sizar/digest.start", Rows.laid_sizar_digest_start), ("sizar/digest.numbers", Rows.laid_sizar_digest_numbers), ("sizar/requests.kinds", Rows.laid_sizar_requests_kinds), ("sizar/rules.kinds", Rows.laid_sizar_rules_kinds)] [.handle, .data, .data, .data, .funcs] true :=
  Program.laidByTextLater.sub seatTie1 ["errors.errorType", "sizar/digest.start", "sizar/digest.numbers", "sizar/requests.kinds", "sizar/rules.kinds"] (by kernel_rfl) (by kernel_rfl)
theorem ledgerArrival_row_tie : Rows.ledgerArrivalRow.laidByTextAt .later Tryz.pinned [.handle, .data, .data, .data, .funcs] true :=
  OpenClaim.laidByTextAt_later rfl rfl tie noOwnUnsafe
theorem ledgerArrivalUpto_row_tie : Rows.ledgerArrivalUptoRow.laidByTextAt .later Tryz.pinned [.handle, .data, .data, .data, .funcs] true :=
  OpenClaim.laidByTextAt_later rfl rfl tie noOwnUnsafe
end Go.Proofs.YtbfpdhdcicjihaaGreatDoor
