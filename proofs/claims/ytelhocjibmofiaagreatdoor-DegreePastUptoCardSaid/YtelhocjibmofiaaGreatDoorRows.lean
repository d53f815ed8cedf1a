/-
  NARROWER THAN 'FOR EVERY INPUT', by the rows' own cells (each row's printed sentence says how): DegreeOfSpec: loops, laid · DegreePast: loops, laid.
  DERIVED. THE GIVEN ROWS OF THIS SEAT. 2 by the template 'for every input the law returns true; each argument reads behind the call as it read before'; 0 by the template 'total and deterministic' (their statements: YtelhocjibmofiaaGreatDoorTotals.lean).
  GIVEN WITH THE SEED: the statements are not yours to turn. If you find one false, say at which input.
  Laid BY PROGRAM, IN A SANDBOX (cutbox-rows.mjs): the forced cells as the released guide's own fill.sh prints them over the translation cad47f6e53fbc29a… (all of the seat's roots in one cut). By AI agents, Wed Nov 11 2026. No macro, syntax, notation, axiom, sorry.
-/
import Derived.Test.YtelhocjibmofiaaGreatDoorChecked
import GoSem.Claim
import GoSem.ClaimJoined
import GoSem.ClaimMapViews
import Derived.JoinedTies
import Derived.KernelRfl
namespace Go.Proofs.YtelhocjibmofiaaGreatDoor
/- THE CELL 'sum', in the pinned program and in every row, IS THE sha256 OF THE DUMP (.gsa) THAT YtelhocjibmofiaaGreatDoorProg.lean LOADS. Nothing in Lean hashes anything: it is a label: what it is worth is what the hold of that sum in a sandbox is worth. -/
noncomputable def Tryz.pinned : Pinned := { name := "ytelhocjibmofiaagreatdoor", sum := "cad47f6e53fbc29af6a57ba0af9110462653d03f18c6486822ceaa27fd8748d1", checked := Tryz.checked }
namespace Rows
def none {H : Type} : Left H := { results := [], args := [] }

/- WHAT THE LISTED PACKAGE-LEVEL VARIABLES READ AS WHEN THE CALL BEGINS. Each datum BY PROGRAM (the guide's laid-datum.mjs) off the statement by which the dump's own 'gosem.cut.vars' lays the variable. In a bare row this is a premise. The card (YtelhocjibmofiaaGreatDoorCards.lean) ties it to the program's text. -/
def laid_sizar_rules_kinds {H : Type} : DataW H := .iface "func table" (.agg [.agg [.lit (.bool false), .lit (.bool false), .lit (.bool false), .lit (.bool false), .nil, .nil], .agg [.lit (.bool false), .lit (.bool false), .lit (.bool false), .lit (.bool true), .iface "func" (.lit (.string [115, 105, 122, 97, 114, 47, 114, 117, 108, 101, 115, 46, 107, 105, 110, 100, 115, 36, 49])), .iface "func" (.lit (.string [115, 105, 122, 97, 114, 47, 114, 117, 108, 101, 115, 46, 107, 105, 110, 100, 115, 36, 50]))], .agg [.lit (.bool false), .lit (.bool false), .lit (.bool false), .lit (.bool true), .iface "func" (.lit (.string [115, 105, 122, 97, 114, 47, 114, 117, 108, 101, 115, 46, 107, 105, 110, 100, 115, 36, 51])), .iface "func" (.lit (.string [115, 105, 122, 97, 114, 47, 114, 117, 108, 101, 115, 46, 107, 105, 110, 100, 115, 36, 52]))], .agg [.lit (.bool false), .lit (.bool true), .lit (.bool false), .lit (.bool true), .iface "func" (.lit (.string [115, 105, 122, 97, 114, 47, 114, 117, 108, 101, 115, 46, 107, 105, 110, 100, 115, 36, 53])), .iface "func" (.lit (.string [115, 105, 122, 97, 114, 47, 114, 117, 108, 101, 115, 46, 107, 105, 110, 100, 115, 36, 54]))], .agg [.lit (.bool false), .lit (.bool false), .lit (.bool false), .lit (.bool true), .iface "func" (.lit (.string [115, 105, 122, 97, 114, 47, 114, 117, 108, 101, 115, 46, 107, 105, 110, 100, 115, 36, 55])), .iface "func" (.lit (.string [115, 105, 122, 97, 114, 47, 114, 117, 108, 101, 115, 46, 107, 105, 110, 100, 115, 36, 56]))], .agg [.lit (.bool true), .lit (.bool true), .lit (.bool false), .lit (.bool false), .iface "func" (.lit (.string [115, 105, 122, 97, 114, 47, 114, 117, 108, 101, 115, 46, 107, 105, 110, 100, 115, 36, 57])), .iface "func" (.lit (.string [115, 105, 122, 97, 114, 47, 114, 117, 108, 101, 115, 46, 107, 105, 110, 100, 115, 36, 49, 48]))], .agg [.lit (.bool true), .lit (.bool true), .lit (.bool false), .lit (.bool false), .iface "func" (.lit (.string [115, 105, 122, 97, 114, 47, 114, 117, 108, 101, 115, 46, 107, 105, 110, 100, 115, 36, 49, 49])), .iface "func" (.lit (.string [115, 105, 122, 97, 114, 47, 114, 117, 108, 101, 115, 46, 107, 105, 110, 100, 115, 36, 49, 50]))], .agg [.lit (.bool false), .lit (.bool true), .lit (.bool false), .lit (.bool false), .iface "func" (.lit (.string [115, 105, 122, 97, 114, 47, 114, 117, 108, 101, 115, 46, 107, 105, 110, 100, 115, 36, 49, 51])), .iface "func" (.lit (.string [115, 105, 122, 97, 114, 47, 114, 117, 108, 101, 115, 46, 107, 105, 110, 100, 115, 36, 49, 52]))], .agg [.lit (.bool false), .lit (.bool true), .lit (.bool true), .lit (.bool false), .iface "func" (.lit (.string [115, 105, 122, 97, 114, 47, 114, 117, 108, 101, 115, 46, 107, 105, 110, 100, 115, 36, 49, 53])), .iface "func" (.lit (.string [115, 105, 122, 97, 114, 47, 114, 117, 108, 101, 115, 46, 107, 105, 110, 100, 115, 36, 49, 54]))], .agg [.lit (.bool true), .lit (.bool false), .lit (.bool false), .lit (.bool false), .iface "func" (.lit (.string [115, 105, 122, 97, 114, 47, 114, 117, 108, 101, 115, 46, 99, 111, 117, 114, 115, 101])), .iface "func" (.lit (.string [115, 105, 122, 97, 114, 47, 114, 117, 108, 101, 115, 46, 107, 105, 110, 100, 115, 36, 49, 55]))]])

/-- 'sizarlaw19.DegreeOfSpec': WHATEVER THE INPUT: true; the input reads as it did. -/
def degreeOfSpecSpec : ChangeSpec := { name := "degreeOfSpec", fn := fun _ => fun
  | [d1, d2, d3, d4, d5] => { results := [.lit (.bool true)], args := [d1, d2, d3, d4, d5] }
  | _ => none }
def degreeOfSpecRow : OpenClaim := { program := "ytelhocjibmofiaagreatdoor", sum := "cad47f6e53fbc29af6a57ba0af9110462653d03f18c6486822ceaa27fd8748d1", func := "sizar/sizarlaw19.DegreeOfSpec", spec := "degreeOfSpec", unfollowed := true, recurses := true, named := ["sizar/rules.kinds"], loops := true, apart := false, laid := [("sizar/rules.kinds", laid_sizar_rules_kinds)] }
def DegreeOfSpecSaid : Prop := degreeOfSpecRow.holds Tryz.pinned (OpenSpec.ofChange degreeOfSpecSpec)

/-- ITS FALSE NEIGHBOUR: 'it returns false'. Refute it at one input. -/
def degreeOfSpecWrong : ChangeSpec := { name := "degreeOfSpec", fn := fun _ => fun
  | [d1, d2, d3, d4, d5] => { results := [.lit (.bool false)], args := [d1, d2, d3, d4, d5] }
  | _ => none }
def DegreeOfSpecWrongFalsely : Prop := degreeOfSpecRow.holds Tryz.pinned (OpenSpec.ofChange degreeOfSpecWrong)

/-- 'sizarlaw19.DegreePast': WHATEVER THE INPUT: true; the input reads as it did. -/
def degreePastSpec : ChangeSpec := { name := "degreePast", fn := fun _ => fun
  | [d1, d2, d3, d4, d5, d6] => { results := [.lit (.bool true)], args := [d1, d2, d3, d4, d5, d6] }
  | _ => none }
def degreePastRow : OpenClaim := { program := "ytelhocjibmofiaagreatdoor", sum := "cad47f6e53fbc29af6a57ba0af9110462653d03f18c6486822ceaa27fd8748d1", func := "sizar/sizarlaw19.DegreePast", spec := "degreePast", unfollowed := true, recurses := true, named := ["sizar/rules.kinds"], loops := true, apart := false, laid := [("sizar/rules.kinds", laid_sizar_rules_kinds)] }
def DegreePastSaid : Prop := degreePastRow.holds Tryz.pinned (OpenSpec.ofChange degreePastSpec)

/-- ITS FALSE NEIGHBOUR: 'it returns false'. Refute it at one input. -/
def degreePastWrong : ChangeSpec := { name := "degreePast", fn := fun _ => fun
  | [d1, d2, d3, d4, d5, d6] => { results := [.lit (.bool false)], args := [d1, d2, d3, d4, d5, d6] }
  | _ => none }
def DegreePastWrongFalsely : Prop := degreePastRow.holds Tryz.pinned (OpenSpec.ofChange degreePastWrong)

/- THE SECOND FORM. 'bulk': how many values and letters a reading holds, each counted each time it is reached (what is shared counts as often as it is met; a slice's spare places count too). A statement '..UptoSaid' is the law's where the arguments, and the package variables that the reading takes, are together of bulk at most 1048576: NARROWER than '..Said'. Prove '..Said' where nothing that the law and all that it calls make is longer than what came in: it says more and counts as full. Else prove '..UptoSaid'. A law counts once. -/
mutual
def uptoBulk {H : Type} : DataW H → Nat
  | .lit (.string bytes) => bytes.length + 1
  | .lit _ => 1
  | .nil => 1
  | .ptr d => uptoBulk d + 1
  | .slice elems spare => uptoBulkAll elems + uptoBulkAll spare + 1
  | .agg parts => uptoBulkAll parts + 1
  | .iface _ d => uptoBulk d + 1
  | .map entries => uptoBulkEntries entries + 1
  | .held _ => 1
def uptoBulkAll {H : Type} : List (DataW H) → Nat
  | [] => 0
  | d :: r => uptoBulk d + uptoBulkAll r
def uptoBulkEntries {H : Type} : List (Lit × DataW H) → Nat
  | [] => 0
  | x :: r => uptoBulkEntry x + uptoBulkEntries r
def uptoBulkEntry {H : Type} : Lit × DataW H → Nat
  | (.string bytes, d) => bytes.length + uptoBulk d + 1
  | (_, d) => uptoBulk d + 1
 end
def uptoSmall : (H : Type) → List (DataW H) → Bool := fun _ ds => decide (uptoBulkAll ds ≤ 1048576)
def OpenSpec.upto (s : _root_.Go.ChangeSpec) : _root_.Go.OpenSpec := { _root_.Go.OpenSpec.ofChange s with cond := some uptoSmall }

/-- 'sizarlaw19.DegreeOfSpec', WHERE WHAT IT READS IS OF BULK AT MOST 1048576: true; the input reads as it did. -/
def degreeOfSpecUptoRow : OpenClaim := { program := "ytelhocjibmofiaagreatdoor", sum := "cad47f6e53fbc29af6a57ba0af9110462653d03f18c6486822ceaa27fd8748d1", func := "sizar/sizarlaw19.DegreeOfSpec", spec := "degreeOfSpec", unfollowed := true, recurses := true, named := ["sizar/rules.kinds"], loops := true, apart := false, laid := [("sizar/rules.kinds", laid_sizar_rules_kinds)], narrowed := true }
def DegreeOfSpecUptoSaid : Prop := degreeOfSpecUptoRow.holds Tryz.pinned (OpenSpec.upto degreeOfSpecSpec)

/-- 'sizarlaw19.DegreePast', WHERE WHAT IT READS IS OF BULK AT MOST 1048576: true; the input reads as it did. -/
def degreePastUptoRow : OpenClaim := { program := "ytelhocjibmofiaagreatdoor", sum := "cad47f6e53fbc29af6a57ba0af9110462653d03f18c6486822ceaa27fd8748d1", func := "sizar/sizarlaw19.DegreePast", spec := "degreePast", unfollowed := true, recurses := true, named := ["sizar/rules.kinds"], loops := true, apart := false, laid := [("sizar/rules.kinds", laid_sizar_rules_kinds)], narrowed := true }
def DegreePastUptoSaid : Prop := degreePastUptoRow.holds Tryz.pinned (OpenSpec.upto degreePastSpec)

end Rows
end Go.Proofs.YtelhocjibmofiaaGreatDoor
