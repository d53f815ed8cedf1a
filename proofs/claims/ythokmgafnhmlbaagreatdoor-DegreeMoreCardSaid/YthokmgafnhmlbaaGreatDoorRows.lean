/-
  NARROWER THAN 'FOR EVERY INPUT', by the rows' own cells (each row's printed sentence says how): DegreeCheckSpec: laid · DegreeNetworkSpec: laid · DegreeAuditSpec: laid · DegreeAssigned: laid · DegreeMore: laid · DegreeOptimal: laid.
  DERIVED. THE GIVEN ROWS OF THIS SEAT. 6 by the template 'for every input the law returns true; each argument reads behind the call as it read before'; 0 by the template 'total and deterministic' (their statements: YthokmgafnhmlbaaGreatDoorTotals.lean).
  GIVEN WITH THE SEED: the statements are not yours to turn. If you find one false, say at which input.
  Laid BY PROGRAM, IN A SANDBOX (cutbox-rows.mjs): the forced cells as the released guide's own fill.sh prints them over the translation bcd0242dc892b07c… (all of the seat's roots in one cut). By AI agents, Wed Nov 11 2026. No macro, syntax, notation, axiom, sorry.
-/
import Derived.Test.YthokmgafnhmlbaaGreatDoorChecked
import GoSem.Claim
import GoSem.ClaimJoined
import GoSem.ClaimMapViews
import Derived.JoinedTies
import Derived.KernelRfl
namespace Go.Proofs.YthokmgafnhmlbaaGreatDoor
/- THE CELL 'sum', in the pinned program and in every row, IS THE sha256 OF THE DUMP (.gsa) THAT YthokmgafnhmlbaaGreatDoorProg.lean LOADS. Nothing in Lean hashes anything: it is a label: what it is worth is what the hold of that sum in a sandbox is worth. -/
noncomputable def Tryz.pinned : Pinned := { name := "ythokmgafnhmlbaagreatdoor", sum := "bcd0242dc892b07c61a40ada1a3ec45450c5b005ab9c524156475068051a49f1", checked := Tryz.checked }
namespace Rows
def none {H : Type} : Left H := { results := [], args := [] }

/- WHAT THE LISTED PACKAGE-LEVEL VARIABLES READ AS WHEN THE CALL BEGINS. Each datum BY PROGRAM (the guide's laid-datum.mjs) off the statement by which the dump's own 'gosem.cut.vars' lays the variable. In a bare row this is a premise. The card (YthokmgafnhmlbaaGreatDoorCards.lean) ties it to the program's text. -/
def laid_sizar_rules_kinds {H : Type} : DataW H := .iface "func table" (.agg [.agg [.lit (.bool false), .lit (.bool false), .lit (.bool false), .lit (.bool false), .nil, .nil], .agg [.lit (.bool false), .lit (.bool false), .lit (.bool false), .lit (.bool true), .iface "func" (.lit (.string [115, 105, 122, 97, 114, 47, 114, 117, 108, 101, 115, 46, 107, 105, 110, 100, 115, 36, 49])), .iface "func" (.lit (.string [115, 105, 122, 97, 114, 47, 114, 117, 108, 101, 115, 46, 107, 105, 110, 100, 115, 36, 50]))], .agg [.lit (.bool false), .lit (.bool false), .lit (.bool false), .lit (.bool true), .iface "func" (.lit (.string [115, 105, 122, 97, 114, 47, 114, 117, 108, 101, 115, 46, 107, 105, 110, 100, 115, 36, 51])), .iface "func" (.lit (.string [115, 105, 122, 97, 114, 47, 114, 117, 108, 101, 115, 46, 107, 105, 110, 100, 115, 36, 52]))], .agg [.lit (.bool false), .lit (.bool true), .lit (.bool false), .lit (.bool true), .iface "func" (.lit (.string [115, 105, 122, 97, 114, 47, 114, 117, 108, 101, 115, 46, 107, 105, 110, 100, 115, 36, 53])), .iface "func" (.lit (.string [115, 105, 122, 97, 114, 47, 114, 117, 108, 101, 115, 46, 107, 105, 110, 100, 115, 36, 54]))], .agg [.lit (.bool false), .lit (.bool false), .lit (.bool false), .lit (.bool true), .iface "func" (.lit (.string [115, 105, 122, 97, 114, 47, 114, 117, 108, 101, 115, 46, 107, 105, 110, 100, 115, 36, 55])), .iface "func" (.lit (.string [115, 105, 122, 97, 114, 47, 114, 117, 108, 101, 115, 46, 107, 105, 110, 100, 115, 36, 56]))], .agg [.lit (.bool true), .lit (.bool true), .lit (.bool false), .lit (.bool false), .iface "func" (.lit (.string [115, 105, 122, 97, 114, 47, 114, 117, 108, 101, 115, 46, 107, 105, 110, 100, 115, 36, 57])), .iface "func" (.lit (.string [115, 105, 122, 97, 114, 47, 114, 117, 108, 101, 115, 46, 107, 105, 110, 100, 115, 36, 49, 48]))], .agg [.lit (.bool true), .lit (.bool true), .lit (.bool false), .lit (.bool false), .iface "func" (.lit (.string [115, 105, 122, 97, 114, 47, 114, 117, 108, 101, 115, 46, 107, 105, 110, 100, 115, 36, 49, 49])), .iface "func" (.lit (.string [115, 105, 122, 97, 114, 47, 114, 117, 108, 101, 115, 46, 107, 105, 110, 100, 115, 36, 49, 50]))], .agg [.lit (.bool false), .lit (.bool true), .lit (.bool false), .lit (.bool false), .iface "func" (.lit (.string [115, 105, 122, 97, 114, 47, 114, 117, 108, 101, 115, 46, 107, 105, 110, 100, 115, 36, 49, 51])), .iface "func" (.lit (.string [115, 105, 122, 97, 114, 47, 114, 117, 108, 101, 115, 46, 107, 105, 110, 100, 115, 36, 49, 52]))], .agg [.lit (.bool false), .lit (.bool true), .lit (.bool true), .lit (.bool false), .iface "func" (.lit (.string [115, 105, 122, 97, 114, 47, 114, 117, 108, 101, 115, 46, 107, 105, 110, 100, 115, 36, 49, 53])), .iface "func" (.lit (.string [115, 105, 122, 97, 114, 47, 114, 117, 108, 101, 115, 46, 107, 105, 110, 100, 115, 36, 49, 54]))], .agg [.lit (.bool true), .lit (.bool false), .lit (.bool false), .lit (.bool false), .iface "func" (.lit (.string [115, 105, 122, 97, 114, 47, 114, 117, 108, 101, 115, 46, 99, 111, 117, 114, 115, 101])), .iface "func" (.lit (.string [115, 105, 122, 97, 114, 47, 114, 117, 108, 101, 115, 46, 107, 105, 110, 100, 115, 36, 49, 55]))]])

/-- 'sizarlaw19.DegreeCheckSpec': WHATEVER THE INPUT: true; the input reads as it did. -/
def degreeCheckSpecSpec : ChangeSpec := { name := "degreeCheckSpec", fn := fun _ => fun
  | [d1, d2] => { results := [.lit (.bool true)], args := [d1, d2] }
  | _ => none }
def degreeCheckSpecRow : OpenClaim := { program := "ythokmgafnhmlbaagreatdoor", sum := "bcd0242dc892b07c61a40ada1a3ec45450c5b005ab9c524156475068051a49f1", func := "sizar/sizarlaw19.DegreeCheckSpec", spec := "degreeCheckSpec", unfollowed := true, recurses := true, named := ["sizar/rules.kinds"], apart := false, laid := [("sizar/rules.kinds", laid_sizar_rules_kinds)] }
def DegreeCheckSpecSaid : Prop := degreeCheckSpecRow.holds Tryz.pinned (OpenSpec.ofChange degreeCheckSpecSpec)

/-- ITS FALSE NEIGHBOUR: 'it returns false'. Refute it at one input. -/
def degreeCheckSpecWrong : ChangeSpec := { name := "degreeCheckSpec", fn := fun _ => fun
  | [d1, d2] => { results := [.lit (.bool false)], args := [d1, d2] }
  | _ => none }
def DegreeCheckSpecWrongFalsely : Prop := degreeCheckSpecRow.holds Tryz.pinned (OpenSpec.ofChange degreeCheckSpecWrong)

/-- 'sizarlaw19.DegreeNetworkSpec': WHATEVER THE INPUT: true; the input reads as it did. -/
def degreeNetworkSpecSpec : ChangeSpec := { name := "degreeNetworkSpec", fn := fun _ => fun
  | [d1, d2] => { results := [.lit (.bool true)], args := [d1, d2] }
  | _ => none }
def degreeNetworkSpecRow : OpenClaim := { program := "ythokmgafnhmlbaagreatdoor", sum := "bcd0242dc892b07c61a40ada1a3ec45450c5b005ab9c524156475068051a49f1", func := "sizar/sizarlaw19.DegreeNetworkSpec", spec := "degreeNetworkSpec", unfollowed := true, recurses := true, named := ["sizar/rules.kinds"], apart := false, laid := [("sizar/rules.kinds", laid_sizar_rules_kinds)] }
def DegreeNetworkSpecSaid : Prop := degreeNetworkSpecRow.holds Tryz.pinned (OpenSpec.ofChange degreeNetworkSpecSpec)

/-- ITS FALSE NEIGHBOUR: 'it returns false'. Refute it at one input. -/
def degreeNetworkSpecWrong : ChangeSpec := { name := "degreeNetworkSpec", fn := fun _ => fun
  | [d1, d2] => { results := [.lit (.bool false)], args := [d1, d2] }
  | _ => none }
def DegreeNetworkSpecWrongFalsely : Prop := degreeNetworkSpecRow.holds Tryz.pinned (OpenSpec.ofChange degreeNetworkSpecWrong)

/-- 'sizarlaw19.DegreeAuditSpec': WHATEVER THE INPUT: true; the input reads as it did. -/
def degreeAuditSpecSpec : ChangeSpec := { name := "degreeAuditSpec", fn := fun _ => fun
  | [d1, d2] => { results := [.lit (.bool true)], args := [d1, d2] }
  | _ => none }
def degreeAuditSpecRow : OpenClaim := { program := "ythokmgafnhmlbaagreatdoor", sum := "bcd0242dc892b07c61a40ada1a3ec45450c5b005ab9c524156475068051a49f1", func := "sizar/sizarlaw19.DegreeAuditSpec", spec := "degreeAuditSpec", unfollowed := true, recurses := true, named := ["sizar/rules.kinds"], apart := false, laid := [("sizar/rules.kinds", laid_sizar_rules_kinds)] }
def DegreeAuditSpecSaid : Prop := degreeAuditSpecRow.holds Tryz.pinned (OpenSpec.ofChange degreeAuditSpecSpec)

/-- ITS FALSE NEIGHBOUR: 'it returns false'. Refute it at one input. -/
def degreeAuditSpecWrong : ChangeSpec := { name := "degreeAuditSpec", fn := fun _ => fun
  | [d1, d2] => { results := [.lit (.bool false)], args := [d1, d2] }
  | _ => none }
def DegreeAuditSpecWrongFalsely : Prop := degreeAuditSpecRow.holds Tryz.pinned (OpenSpec.ofChange degreeAuditSpecWrong)

/-- 'sizarlaw19.DegreeAssigned': WHATEVER THE INPUT: true; the input reads as it did. -/
def degreeAssignedSpec : ChangeSpec := { name := "degreeAssigned", fn := fun _ => fun
  | [d1, d2] => { results := [.lit (.bool true)], args := [d1, d2] }
  | _ => none }
def degreeAssignedRow : OpenClaim := { program := "ythokmgafnhmlbaagreatdoor", sum := "bcd0242dc892b07c61a40ada1a3ec45450c5b005ab9c524156475068051a49f1", func := "sizar/sizarlaw19.DegreeAssigned", spec := "degreeAssigned", unfollowed := true, recurses := true, named := ["sizar/rules.kinds"], apart := false, laid := [("sizar/rules.kinds", laid_sizar_rules_kinds)] }
def DegreeAssignedSaid : Prop := degreeAssignedRow.holds Tryz.pinned (OpenSpec.ofChange degreeAssignedSpec)

/-- ITS FALSE NEIGHBOUR: 'it returns false'. Refute it at one input. -/
def degreeAssignedWrong : ChangeSpec := { name := "degreeAssigned", fn := fun _ => fun
  | [d1, d2] => { results := [.lit (.bool false)], args := [d1, d2] }
  | _ => none }
def DegreeAssignedWrongFalsely : Prop := degreeAssignedRow.holds Tryz.pinned (OpenSpec.ofChange degreeAssignedWrong)

/-- 'sizarlaw19.DegreeMore': WHATEVER THE INPUT: true; the input reads as it did. -/
def degreeMoreSpec : ChangeSpec := { name := "degreeMore", fn := fun _ => fun
  | [d1, d2, d3] => { results := [.lit (.bool true)], args := [d1, d2, d3] }
  | _ => none }
def degreeMoreRow : OpenClaim := { program := "ythokmgafnhmlbaagreatdoor", sum := "bcd0242dc892b07c61a40ada1a3ec45450c5b005ab9c524156475068051a49f1", func := "sizar/sizarlaw19.DegreeMore", spec := "degreeMore", unfollowed := true, recurses := true, named := ["sizar/rules.kinds"], apart := false, laid := [("sizar/rules.kinds", laid_sizar_rules_kinds)] }
def DegreeMoreSaid : Prop := degreeMoreRow.holds Tryz.pinned (OpenSpec.ofChange degreeMoreSpec)

/-- ITS FALSE NEIGHBOUR: 'it returns false'. Refute it at one input. -/
def degreeMoreWrong : ChangeSpec := { name := "degreeMore", fn := fun _ => fun
  | [d1, d2, d3] => { results := [.lit (.bool false)], args := [d1, d2, d3] }
  | _ => none }
def DegreeMoreWrongFalsely : Prop := degreeMoreRow.holds Tryz.pinned (OpenSpec.ofChange degreeMoreWrong)

/-- 'sizarlaw19.DegreeOptimal': WHATEVER THE INPUT: true; the input reads as it did. -/
def degreeOptimalSpec : ChangeSpec := { name := "degreeOptimal", fn := fun _ => fun
  | [d1, d2, d3] => { results := [.lit (.bool true)], args := [d1, d2, d3] }
  | _ => none }
def degreeOptimalRow : OpenClaim := { program := "ythokmgafnhmlbaagreatdoor", sum := "bcd0242dc892b07c61a40ada1a3ec45450c5b005ab9c524156475068051a49f1", func := "sizar/sizarlaw19.DegreeOptimal", spec := "degreeOptimal", unfollowed := true, recurses := true, named := ["sizar/rules.kinds"], apart := false, laid := [("sizar/rules.kinds", laid_sizar_rules_kinds)] }
def DegreeOptimalSaid : Prop := degreeOptimalRow.holds Tryz.pinned (OpenSpec.ofChange degreeOptimalSpec)

/-- ITS FALSE NEIGHBOUR: 'it returns false'. Refute it at one input. -/
def degreeOptimalWrong : ChangeSpec := { name := "degreeOptimal", fn := fun _ => fun
  | [d1, d2, d3] => { results := [.lit (.bool false)], args := [d1, d2, d3] }
  | _ => none }
def DegreeOptimalWrongFalsely : Prop := degreeOptimalRow.holds Tryz.pinned (OpenSpec.ofChange degreeOptimalWrong)

/- THE SECOND FORM. 'bulk': how many values and letters a reading holds, each counted each time it is reached (what is shared counts as often as it is met; a slice's spare places count too). A statement '..UptoSaid' is the law's where the arguments, and the package variables that the reading takes, are together of bulk at most 1048576: NARROWER than '..Said'. Prove '..Said' where nothing that the law and all that it calls make is longer than what came in: it says more and counts as full. Else prove '..UptoSaid'. A law counts once. -/
mutual
def uptoBulk {H : Type} : DataW H → Nat
  | .lit (.string bytes) => bytes.length + 1
  | .lit _ => 1
  | .nil => 1
  | .ptr d => uptoBulk d + 1
  | .slice elems spare => uptoBulkAll elems + uptoBulkAll spare + 1
  | .agg parts => uptoBulkAll parts + 1
  | .iface _ d => uptoBulk d + 1
  | .map entries => uptoBulkEntries entries + 1
  | .held _ => 1
def uptoBulkAll {H : Type} : List (DataW H) → Nat
  | [] => 0
  | d :: r => uptoBulk d + uptoBulkAll r
def uptoBulkEntries {H : Type} : List (Lit × DataW H) → Nat
  | [] => 0
  | x :: r => uptoBulkEntry x + uptoBulkEntries r
def uptoBulkEntry {H : Type} : Lit × DataW H → Nat
  | (.string bytes, d) => bytes.length + uptoBulk d + 1
  | (_, d) => uptoBulk d + 1
 end
def uptoSmall : (H : Type) → List (DataW H) → Bool := fun _ ds => decide (uptoBulkAll ds ≤ 1048576)
def OpenSpec.upto (s : _root_.Go.ChangeSpec) : _root_.Go.OpenSpec := { _root_.Go.OpenSpec.ofChange s with cond := some uptoSmall }

/-- 'sizarlaw19.DegreeCheckSpec', WHERE WHAT IT READS IS OF BULK AT MOST 1048576: true; the input reads as it did. -/
def degreeCheckSpecUptoRow : OpenClaim := { program := "ythokmgafnhmlbaagreatdoor", sum := "bcd0242dc892b07c61a40ada1a3ec45450c5b005ab9c524156475068051a49f1", func := "sizar/sizarlaw19.DegreeCheckSpec", spec := "degreeCheckSpec", unfollowed := true, recurses := true, named := ["sizar/rules.kinds"], apart := false, laid := [("sizar/rules.kinds", laid_sizar_rules_kinds)], narrowed := true }
def DegreeCheckSpecUptoSaid : Prop := degreeCheckSpecUptoRow.holds Tryz.pinned (OpenSpec.upto degreeCheckSpecSpec)

/-- 'sizarlaw19.DegreeNetworkSpec', WHERE WHAT IT READS IS OF BULK AT MOST 1048576: true; the input reads as it did. -/
def degreeNetworkSpecUptoRow : OpenClaim := { program := "ythokmgafnhmlbaagreatdoor", sum := "bcd0242dc892b07c61a40ada1a3ec45450c5b005ab9c524156475068051a49f1", func := "sizar/sizarlaw19.DegreeNetworkSpec", spec := "degreeNetworkSpec", unfollowed := true, recurses := true, named := ["sizar/rules.kinds"], apart := false, laid := [("sizar/rules.kinds", laid_sizar_rules_kinds)], narrowed := true }
def DegreeNetworkSpecUptoSaid : Prop := degreeNetworkSpecUptoRow.holds Tryz.pinned (OpenSpec.upto degreeNetworkSpecSpec)

/-- 'sizarlaw19.DegreeAuditSpec', WHERE WHAT IT READS IS OF BULK AT MOST 1048576: true; the input reads as it did. -/
def degreeAuditSpecUptoRow : OpenClaim := { program := "ythokmgafnhmlbaagreatdoor", sum := "bcd0242dc892b07c61a40ada1a3ec45450c5b005ab9c524156475068051a49f1", func := "sizar/sizarlaw19.DegreeAuditSpec", spec := "degreeAuditSpec", unfollowed := true, recurses := true, named := ["sizar/rules.kinds"], apart := false, laid := [("sizar/rules.kinds", laid_sizar_rules_kinds)], narrowed := true }
def DegreeAuditSpecUptoSaid : Prop := degreeAuditSpecUptoRow.holds Tryz.pinned (OpenSpec.upto degreeAuditSpecSpec)

/-- 'sizarlaw19.DegreeAssigned', WHERE WHAT IT READS IS OF BULK AT MOST 1048576: true; the input reads as it did. -/
def degreeAssignedUptoRow : OpenClaim := { program := "ythokmgafnhmlbaagreatdoor", sum := "bcd0242dc892b07c61a40ada1a3ec45450c5b005ab9c524156475068051a49f1", func := "sizar/sizarlaw19.DegreeAssigned", spec := "degreeAssigned", unfollowed := true, recurses := true, named := ["sizar/rules.kinds"], apart := false, laid := [("sizar/rules.kinds", laid_sizar_rules_kinds)], narrowed := true }
def DegreeAssignedUptoSaid : Prop := degreeAssignedUptoRow.holds Tryz.pinned (OpenSpec.upto degreeAssignedSpec)

/-- 'sizarlaw19.DegreeMore', WHERE WHAT IT READS IS OF BULK AT MOST 1048576: true; the input reads as it did. -/
def degreeMoreUptoRow : OpenClaim := { program := "ythokmgafnhmlbaagreatdoor", sum := "bcd0242dc892b07c61a40ada1a3ec45450c5b005ab9c524156475068051a49f1", func := "sizar/sizarlaw19.DegreeMore", spec := "degreeMore", unfollowed := true, recurses := true, named := ["sizar/rules.kinds"], apart := false, laid := [("sizar/rules.kinds", laid_sizar_rules_kinds)], narrowed := true }
def DegreeMoreUptoSaid : Prop := degreeMoreUptoRow.holds Tryz.pinned (OpenSpec.upto degreeMoreSpec)

/-- 'sizarlaw19.DegreeOptimal', WHERE WHAT IT READS IS OF BULK AT MOST 1048576: true; the input reads as it did. -/
def degreeOptimalUptoRow : OpenClaim := { program := "ythokmgafnhmlbaagreatdoor", sum := "bcd0242dc892b07c61a40ada1a3ec45450c5b005ab9c524156475068051a49f1", func := "sizar/sizarlaw19.DegreeOptimal", spec := "degreeOptimal", unfollowed := true, recurses := true, named := ["sizar/rules.kinds"], apart := false, laid := [("sizar/rules.kinds", laid_sizar_rules_kinds)], narrowed := true }
def DegreeOptimalUptoSaid : Prop := degreeOptimalUptoRow.holds Tryz.pinned (OpenSpec.upto degreeOptimalSpec)

end Rows
end Go.Proofs.YthokmgafnhmlbaaGreatDoor
