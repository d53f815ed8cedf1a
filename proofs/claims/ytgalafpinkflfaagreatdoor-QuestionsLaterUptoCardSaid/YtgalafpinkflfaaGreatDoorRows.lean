/-
  NARROWER THAN 'FOR EVERY INPUT', by the rows' own cells (each row's printed sentence says how): QuestionsAnswerSpec: loops, laid · QuestionsParts: loops, laid · QuestionsLater: loops, laid · QuestionsNow: loops, laid · QuestionsAlike: loops, laid.
  DERIVED. THE GIVEN ROWS OF THIS SEAT. 5 by the template 'for every input the law returns true; each argument reads behind the call as it read before'; 0 by the template 'total and deterministic' (their statements: YtgalafpinkflfaaGreatDoorTotals.lean).
  GIVEN WITH THE SEED: the statements are not yours to turn. If you find one false, say at which input.
  Laid BY PROGRAM, IN A SANDBOX (cutbox-rows.mjs): the forced cells as the released guide's own fill.sh prints them over the translation d59494e556983066… (all of the seat's roots in one cut). By AI agents, Wed Nov 11 2026. No macro, syntax, notation, axiom, sorry.
-/
import Derived.Test.YtgalafpinkflfaaGreatDoorChecked
import GoSem.Claim
import GoSem.ClaimJoined
import GoSem.ClaimMapViews
import Derived.JoinedTies
import Derived.KernelRfl
namespace Go.Proofs.YtgalafpinkflfaaGreatDoor
/- THE CELL 'sum', in the pinned program and in every row, IS THE sha256 OF THE DUMP (.gsa) THAT YtgalafpinkflfaaGreatDoorProg.lean LOADS. Nothing in Lean hashes anything: it is a label: what it is worth is what the hold of that sum in a sandbox is worth. -/
noncomputable def Tryz.pinned : Pinned := { name := "ytgalafpinkflfaagreatdoor", sum := "d59494e5569830665d5d8a269b37a43925a263683f989f71f8aa22fed2d206ea", checked := Tryz.checked }
namespace Rows
def none {H : Type} : Left H := { results := [], args := [] }

/- WHAT THE LISTED PACKAGE-LEVEL VARIABLES READ AS WHEN THE CALL BEGINS. Each datum BY PROGRAM (the guide's laid-datum.mjs) off the statement by which the dump's own 'gosem.cut.vars' lays the variable. In a bare row this is a premise. The card (YtgalafpinkflfaaGreatDoorCards.lean) ties it to the program's text. -/
def laid_sizar_rules_kinds {H : Type} : DataW H := .iface "func table" (.agg [.agg [.lit (.bool false), .lit (.bool false), .lit (.bool false), .lit (.bool false), .nil, .nil], .agg [.lit (.bool false), .lit (.bool false), .lit (.bool false), .lit (.bool true), .iface "func" (.lit (.string [115, 105, 122, 97, 114, 47, 114, 117, 108, 101, 115, 46, 107, 105, 110, 100, 115, 36, 49])), .iface "func" (.lit (.string [115, 105, 122, 97, 114, 47, 114, 117, 108, 101, 115, 46, 107, 105, 110, 100, 115, 36, 50]))], .agg [.lit (.bool false), .lit (.bool false), .lit (.bool false), .lit (.bool true), .iface "func" (.lit (.string [115, 105, 122, 97, 114, 47, 114, 117, 108, 101, 115, 46, 107, 105, 110, 100, 115, 36, 51])), .iface "func" (.lit (.string [115, 105, 122, 97, 114, 47, 114, 117, 108, 101, 115, 46, 107, 105, 110, 100, 115, 36, 52]))], .agg [.lit (.bool false), .lit (.bool true), .lit (.bool false), .lit (.bool true), .iface "func" (.lit (.string [115, 105, 122, 97, 114, 47, 114, 117, 108, 101, 115, 46, 107, 105, 110, 100, 115, 36, 53])), .iface "func" (.lit (.string [115, 105, 122, 97, 114, 47, 114, 117, 108, 101, 115, 46, 107, 105, 110, 100, 115, 36, 54]))], .agg [.lit (.bool false), .lit (.bool false), .lit (.bool false), .lit (.bool true), .iface "func" (.lit (.string [115, 105, 122, 97, 114, 47, 114, 117, 108, 101, 115, 46, 107, 105, 110, 100, 115, 36, 55])), .iface "func" (.lit (.string [115, 105, 122, 97, 114, 47, 114, 117, 108, 101, 115, 46, 107, 105, 110, 100, 115, 36, 56]))], .agg [.lit (.bool true), .lit (.bool true), .lit (.bool false), .lit (.bool false), .iface "func" (.lit (.string [115, 105, 122, 97, 114, 47, 114, 117, 108, 101, 115, 46, 107, 105, 110, 100, 115, 36, 57])), .iface "func" (.lit (.string [115, 105, 122, 97, 114, 47, 114, 117, 108, 101, 115, 46, 107, 105, 110, 100, 115, 36, 49, 48]))], .agg [.lit (.bool true), .lit (.bool true), .lit (.bool false), .lit (.bool false), .iface "func" (.lit (.string [115, 105, 122, 97, 114, 47, 114, 117, 108, 101, 115, 46, 107, 105, 110, 100, 115, 36, 49, 49])), .iface "func" (.lit (.string [115, 105, 122, 97, 114, 47, 114, 117, 108, 101, 115, 46, 107, 105, 110, 100, 115, 36, 49, 50]))], .agg [.lit (.bool false), .lit (.bool true), .lit (.bool false), .lit (.bool false), .iface "func" (.lit (.string [115, 105, 122, 97, 114, 47, 114, 117, 108, 101, 115, 46, 107, 105, 110, 100, 115, 36, 49, 51])), .iface "func" (.lit (.string [115, 105, 122, 97, 114, 47, 114, 117, 108, 101, 115, 46, 107, 105, 110, 100, 115, 36, 49, 52]))], .agg [.lit (.bool false), .lit (.bool true), .lit (.bool true), .lit (.bool false), .iface "func" (.lit (.string [115, 105, 122, 97, 114, 47, 114, 117, 108, 101, 115, 46, 107, 105, 110, 100, 115, 36, 49, 53])), .iface "func" (.lit (.string [115, 105, 122, 97, 114, 47, 114, 117, 108, 101, 115, 46, 107, 105, 110, 100, 115, 36, 49, 54]))], .agg [.lit (.bool true), .lit (.bool false), .lit (.bool false), .lit (.bool false), .iface "func" (.lit (.string [115, 105, 122, 97, 114, 47, 114, 117, 108, 101, 115, 46, 99, 111, 117, 114, 115, 101])), .iface "func" (.lit (.string [115, 105, 122, 97, 114, 47, 114, 117, 108, 101, 115, 46, 107, 105, 110, 100, 115, 36, 49, 55]))]])

/-- 'sizarlaw34.QuestionsAnswerSpec': WHATEVER THE INPUT: true; the input reads as it did. -/
def questionsAnswerSpecSpec : ChangeSpec := { name := "questionsAnswerSpec", fn := fun _ => fun
  | [d1, d2, d3, d4] => { results := [.lit (.bool true)], args := [d1, d2, d3, d4] }
  | _ => none }
def questionsAnswerSpecRow : OpenClaim := { program := "ytgalafpinkflfaagreatdoor", sum := "d59494e5569830665d5d8a269b37a43925a263683f989f71f8aa22fed2d206ea", func := "sizar/sizarlaw34.QuestionsAnswerSpec", spec := "questionsAnswerSpec", unfollowed := true, recurses := true, named := ["sizar/rules.kinds"], loops := true, apart := false, laid := [("sizar/rules.kinds", laid_sizar_rules_kinds)] }
def QuestionsAnswerSpecSaid : Prop := questionsAnswerSpecRow.holds Tryz.pinned (OpenSpec.ofChange questionsAnswerSpecSpec)

/-- ITS FALSE NEIGHBOUR: 'it returns false'. Refute it at one input. -/
def questionsAnswerSpecWrong : ChangeSpec := { name := "questionsAnswerSpec", fn := fun _ => fun
  | [d1, d2, d3, d4] => { results := [.lit (.bool false)], args := [d1, d2, d3, d4] }
  | _ => none }
def QuestionsAnswerSpecWrongFalsely : Prop := questionsAnswerSpecRow.holds Tryz.pinned (OpenSpec.ofChange questionsAnswerSpecWrong)

/-- 'sizarlaw34.QuestionsParts': WHATEVER THE INPUT: true; the input reads as it did. -/
def questionsPartsSpec : ChangeSpec := { name := "questionsParts", fn := fun _ => fun
  | [d1, d2, d3, d4] => { results := [.lit (.bool true)], args := [d1, d2, d3, d4] }
  | _ => none }
def questionsPartsRow : OpenClaim := { program := "ytgalafpinkflfaagreatdoor", sum := "d59494e5569830665d5d8a269b37a43925a263683f989f71f8aa22fed2d206ea", func := "sizar/sizarlaw34.QuestionsParts", spec := "questionsParts", unfollowed := true, recurses := true, named := ["sizar/rules.kinds"], loops := true, apart := false, laid := [("sizar/rules.kinds", laid_sizar_rules_kinds)] }
def QuestionsPartsSaid : Prop := questionsPartsRow.holds Tryz.pinned (OpenSpec.ofChange questionsPartsSpec)

/-- ITS FALSE NEIGHBOUR: 'it returns false'. Refute it at one input. -/
def questionsPartsWrong : ChangeSpec := { name := "questionsParts", fn := fun _ => fun
  | [d1, d2, d3, d4] => { results := [.lit (.bool false)], args := [d1, d2, d3, d4] }
  | _ => none }
def QuestionsPartsWrongFalsely : Prop := questionsPartsRow.holds Tryz.pinned (OpenSpec.ofChange questionsPartsWrong)

/-- 'sizarlaw34.QuestionsLater': WHATEVER THE INPUT: true; the input reads as it did. -/
def questionsLaterSpec : ChangeSpec := { name := "questionsLater", fn := fun _ => fun
  | [d1, d2, d3, d4, d5, d6] => { results := [.lit (.bool true)], args := [d1, d2, d3, d4, d5, d6] }
  | _ => none }
def questionsLaterRow : OpenClaim := { program := "ytgalafpinkflfaagreatdoor", sum := "d59494e5569830665d5d8a269b37a43925a263683f989f71f8aa22fed2d206ea", func := "sizar/sizarlaw34.QuestionsLater", spec := "questionsLater", unfollowed := true, recurses := true, named := ["sizar/rules.kinds"], loops := true, apart := false, laid := [("sizar/rules.kinds", laid_sizar_rules_kinds)] }
def QuestionsLaterSaid : Prop := questionsLaterRow.holds Tryz.pinned (OpenSpec.ofChange questionsLaterSpec)

/-- ITS FALSE NEIGHBOUR: 'it returns false'. Refute it at one input. -/
def questionsLaterWrong : ChangeSpec := { name := "questionsLater", fn := fun _ => fun
  | [d1, d2, d3, d4, d5, d6] => { results := [.lit (.bool false)], args := [d1, d2, d3, d4, d5, d6] }
  | _ => none }
def QuestionsLaterWrongFalsely : Prop := questionsLaterRow.holds Tryz.pinned (OpenSpec.ofChange questionsLaterWrong)

/-- 'sizarlaw34.QuestionsNow': WHATEVER THE INPUT: true; the input reads as it did. -/
def questionsNowSpec : ChangeSpec := { name := "questionsNow", fn := fun _ => fun
  | [d1, d2, d3, d4, d5] => { results := [.lit (.bool true)], args := [d1, d2, d3, d4, d5] }
  | _ => none }
def questionsNowRow : OpenClaim := { program := "ytgalafpinkflfaagreatdoor", sum := "d59494e5569830665d5d8a269b37a43925a263683f989f71f8aa22fed2d206ea", func := "sizar/sizarlaw34.QuestionsNow", spec := "questionsNow", unfollowed := true, recurses := true, named := ["sizar/rules.kinds"], loops := true, apart := false, laid := [("sizar/rules.kinds", laid_sizar_rules_kinds)] }
def QuestionsNowSaid : Prop := questionsNowRow.holds Tryz.pinned (OpenSpec.ofChange questionsNowSpec)

/-- ITS FALSE NEIGHBOUR: 'it returns false'. Refute it at one input. -/
def questionsNowWrong : ChangeSpec := { name := "questionsNow", fn := fun _ => fun
  | [d1, d2, d3, d4, d5] => { results := [.lit (.bool false)], args := [d1, d2, d3, d4, d5] }
  | _ => none }
def QuestionsNowWrongFalsely : Prop := questionsNowRow.holds Tryz.pinned (OpenSpec.ofChange questionsNowWrong)

/-- 'sizarlaw34.QuestionsAlike': WHATEVER THE INPUT: true; the input reads as it did. -/
def questionsAlikeSpec : ChangeSpec := { name := "questionsAlike", fn := fun _ => fun
  | [d1, d2, d3, d4, d5] => { results := [.lit (.bool true)], args := [d1, d2, d3, d4, d5] }
  | _ => none }
def questionsAlikeRow : OpenClaim := { program := "ytgalafpinkflfaagreatdoor", sum := "d59494e5569830665d5d8a269b37a43925a263683f989f71f8aa22fed2d206ea", func := "sizar/sizarlaw34.QuestionsAlike", spec := "questionsAlike", unfollowed := true, recurses := true, named := ["sizar/rules.kinds"], loops := true, apart := false, laid := [("sizar/rules.kinds", laid_sizar_rules_kinds)] }
def QuestionsAlikeSaid : Prop := questionsAlikeRow.holds Tryz.pinned (OpenSpec.ofChange questionsAlikeSpec)

/-- ITS FALSE NEIGHBOUR: 'it returns false'. Refute it at one input. -/
def questionsAlikeWrong : ChangeSpec := { name := "questionsAlike", fn := fun _ => fun
  | [d1, d2, d3, d4, d5] => { results := [.lit (.bool false)], args := [d1, d2, d3, d4, d5] }
  | _ => none }
def QuestionsAlikeWrongFalsely : Prop := questionsAlikeRow.holds Tryz.pinned (OpenSpec.ofChange questionsAlikeWrong)

/- THE SECOND FORM. 'bulk': how many values and letters a reading holds, each counted each time it is reached (what is shared counts as often as it is met; a slice's spare places count too). A statement '..UptoSaid' is the law's where the arguments, and the package variables that the reading takes, are together of bulk at most 1048576: NARROWER than '..Said'. Prove '..Said' where nothing that the law and all that it calls make is longer than what came in: it says more and counts as full. Else prove '..UptoSaid'. A law counts once. -/
mutual
def uptoBulk {H : Type} : DataW H → Nat
  | .lit (.string bytes) => bytes.length + 1
  | .lit _ => 1
  | .nil => 1
  | .ptr d => uptoBulk d + 1
  | .slice elems spare => uptoBulkAll elems + uptoBulkAll spare + 1
  | .agg parts => uptoBulkAll parts + 1
  | .iface _ d => uptoBulk d + 1
  | .map entries => uptoBulkEntries entries + 1
  | .held _ => 1
def uptoBulkAll {H : Type} : List (DataW H) → Nat
  | [] => 0
  | d :: r => uptoBulk d + uptoBulkAll r
def uptoBulkEntries {H : Type} : List (Lit × DataW H) → Nat
  | [] => 0
  | x :: r => uptoBulkEntry x + uptoBulkEntries r
def uptoBulkEntry {H : Type} : Lit × DataW H → Nat
  | (.string bytes, d) => bytes.length + uptoBulk d + 1
  | (_, d) => uptoBulk d + 1
 end
def uptoSmall : (H : Type) → List (DataW H) → Bool := fun _ ds => decide (uptoBulkAll ds ≤ 1048576)
def OpenSpec.upto (s : _root_.Go.ChangeSpec) : _root_.Go.OpenSpec := { _root_.Go.OpenSpec.ofChange s with cond := some uptoSmall }

/-- 'sizarlaw34.QuestionsAnswerSpec', WHERE WHAT IT READS IS OF BULK AT MOST 1048576: true; the input reads as it did. -/
def questionsAnswerSpecUptoRow : OpenClaim := { program := "ytgalafpinkflfaagreatdoor", sum := "d59494e5569830665d5d8a269b37a43925a263683f989f71f8aa22fed2d206ea", func := "sizar/sizarlaw34.QuestionsAnswerSpec", spec := "questionsAnswerSpec", unfollowed := true, recurses := true, named := ["sizar/rules.kinds"], loops := true, apart := false, laid := [("sizar/rules.kinds", laid_sizar_rules_kinds)], narrowed := true }
def QuestionsAnswerSpecUptoSaid : Prop := questionsAnswerSpecUptoRow.holds Tryz.pinned (OpenSpec.upto questionsAnswerSpecSpec)

/-- 'sizarlaw34.QuestionsParts', WHERE WHAT IT READS IS OF BULK AT MOST 1048576: true; the input reads as it did. -/
def questionsPartsUptoRow : OpenClaim := { program := "ytgalafpinkflfaagreatdoor", sum := "d59494e5569830665d5d8a269b37a43925a263683f989f71f8aa22fed2d206ea", func := "sizar/sizarlaw34.QuestionsParts", spec := "questionsParts", unfollowed := true, recurses := true, named := ["sizar/rules.kinds"], loops := true, apart := false, laid := [("sizar/rules.kinds", laid_sizar_rules_kinds)], narrowed := true }
def QuestionsPartsUptoSaid : Prop := questionsPartsUptoRow.holds Tryz.pinned (OpenSpec.upto questionsPartsSpec)

/-- 'sizarlaw34.QuestionsLater', WHERE WHAT IT READS IS OF BULK AT MOST 1048576: true; the input reads as it did. -/
def questionsLaterUptoRow : OpenClaim := { program := "ytgalafpinkflfaagreatdoor", sum := "d59494e5569830665d5d8a269b37a43925a263683f989f71f8aa22fed2d206ea", func := "sizar/sizarlaw34.QuestionsLater", spec := "questionsLater", unfollowed := true, recurses := true, named := ["sizar/rules.kinds"], loops := true, apart := false, laid := [("sizar/rules.kinds", laid_sizar_rules_kinds)], narrowed := true }
def QuestionsLaterUptoSaid : Prop := questionsLaterUptoRow.holds Tryz.pinned (OpenSpec.upto questionsLaterSpec)

/-- 'sizarlaw34.QuestionsNow', WHERE WHAT IT READS IS OF BULK AT MOST 1048576: true; the input reads as it did. -/
def questionsNowUptoRow : OpenClaim := { program := "ytgalafpinkflfaagreatdoor", sum := "d59494e5569830665d5d8a269b37a43925a263683f989f71f8aa22fed2d206ea", func := "sizar/sizarlaw34.QuestionsNow", spec := "questionsNow", unfollowed := true, recurses := true, named := ["sizar/rules.kinds"], loops := true, apart := false, laid := [("sizar/rules.kinds", laid_sizar_rules_kinds)], narrowed := true }
def QuestionsNowUptoSaid : Prop := questionsNowUptoRow.holds Tryz.pinned (OpenSpec.upto questionsNowSpec)

/-- 'sizarlaw34.QuestionsAlike', WHERE WHAT IT READS IS OF BULK AT MOST 1048576: true; the input reads as it did. -/
def questionsAlikeUptoRow : OpenClaim := { program := "ytgalafpinkflfaagreatdoor", sum := "d59494e5569830665d5d8a269b37a43925a263683f989f71f8aa22fed2d206ea", func := "sizar/sizarlaw34.QuestionsAlike", spec := "questionsAlike", unfollowed := true, recurses := true, named := ["sizar/rules.kinds"], loops := true, apart := false, laid := [("sizar/rules.kinds", laid_sizar_rules_kinds)], narrowed := true }
def QuestionsAlikeUptoSaid : Prop := questionsAlikeUptoRow.holds Tryz.pinned (OpenSpec.upto questionsAlikeSpec)

end Rows
end Go.Proofs.YtgalafpinkflfaaGreatDoor
