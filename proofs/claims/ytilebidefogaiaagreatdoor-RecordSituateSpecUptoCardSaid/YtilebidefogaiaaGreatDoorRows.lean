/-
  NARROWER THAN 'FOR EVERY INPUT', by the rows' own cells (each row's printed sentence says how): RecordSituateSpec: loops, laid · RecordPast: loops, laid · RecordOfSpec: loops, laid · RecordAdds: loops, laid · StandingSpec: laid · StandingOfSpec: loops, laid · StandingLast: laid · StandingMore: laid · StandingOf: loops, laid · StandingNames: laid · RecordAlike: loops, laid · RecordCountedSpec: loops, laid · RecordFits: loops, laid · StandingAlike: loops, laid.
  DERIVED. THE GIVEN ROWS OF THIS SEAT. 14 by the template 'for every input the law returns true; each argument reads behind the call as it read before'; 0 by the template 'total and deterministic' (their statements: YtilebidefogaiaaGreatDoorTotals.lean).
  GIVEN WITH THE SEED: the statements are not yours to turn. If you find one false, say at which input.
  Laid BY PROGRAM, IN A SANDBOX (cutbox-rows.mjs): the forced cells as the released guide's own fill.sh prints them over the translation 2030d069e029d0dd… (all of the seat's roots in one cut). By AI agents, Wed Nov 11 2026. No macro, syntax, notation, axiom, sorry.
-/
import Derived.Test.YtilebidefogaiaaGreatDoorChecked
import GoSem.Claim
import GoSem.ClaimJoined
import GoSem.ClaimMapViews
import Derived.JoinedTies
import Derived.KernelRfl
namespace Go.Proofs.YtilebidefogaiaaGreatDoor
/- THE CELL 'sum', in the pinned program and in every row, IS THE sha256 OF THE DUMP (.gsa) THAT YtilebidefogaiaaGreatDoorProg.lean LOADS. Nothing in Lean hashes anything: it is a label: what it is worth is what the hold of that sum in a sandbox is worth. -/
noncomputable def Tryz.pinned : Pinned := { name := "ytilebidefogaiaagreatdoor", sum := "2030d069e029d0ddfc4a4dc6ab449bab9c5419eb0cb0ce0c8bf4192aeddef436", checked := Tryz.checked }
namespace Rows
def none {H : Type} : Left H := { results := [], args := [] }

/- WHAT THE LISTED PACKAGE-LEVEL VARIABLES READ AS WHEN THE CALL BEGINS. Each datum BY PROGRAM (the guide's laid-datum.mjs) off the statement by which the dump's own 'gosem.cut.vars' lays the variable. In a bare row this is a premise. The card (YtilebidefogaiaaGreatDoorCards.lean) ties it to the program's text. -/
def laid_sizar_rules_kinds {H : Type} : DataW H := .iface "func table" (.agg [.agg [.lit (.bool false), .lit (.bool false), .lit (.bool false), .lit (.bool false), .nil, .nil], .agg [.lit (.bool false), .lit (.bool false), .lit (.bool false), .lit (.bool true), .iface "func" (.lit (.string [115, 105, 122, 97, 114, 47, 114, 117, 108, 101, 115, 46, 107, 105, 110, 100, 115, 36, 49])), .iface "func" (.lit (.string [115, 105, 122, 97, 114, 47, 114, 117, 108, 101, 115, 46, 107, 105, 110, 100, 115, 36, 50]))], .agg [.lit (.bool false), .lit (.bool false), .lit (.bool false), .lit (.bool true), .iface "func" (.lit (.string [115, 105, 122, 97, 114, 47, 114, 117, 108, 101, 115, 46, 107, 105, 110, 100, 115, 36, 51])), .iface "func" (.lit (.string [115, 105, 122, 97, 114, 47, 114, 117, 108, 101, 115, 46, 107, 105, 110, 100, 115, 36, 52]))], .agg [.lit (.bool false), .lit (.bool true), .lit (.bool false), .lit (.bool true), .iface "func" (.lit (.string [115, 105, 122, 97, 114, 47, 114, 117, 108, 101, 115, 46, 107, 105, 110, 100, 115, 36, 53])), .iface "func" (.lit (.string [115, 105, 122, 97, 114, 47, 114, 117, 108, 101, 115, 46, 107, 105, 110, 100, 115, 36, 54]))], .agg [.lit (.bool false), .lit (.bool false), .lit (.bool false), .lit (.bool true), .iface "func" (.lit (.string [115, 105, 122, 97, 114, 47, 114, 117, 108, 101, 115, 46, 107, 105, 110, 100, 115, 36, 55])), .iface "func" (.lit (.string [115, 105, 122, 97, 114, 47, 114, 117, 108, 101, 115, 46, 107, 105, 110, 100, 115, 36, 56]))], .agg [.lit (.bool true), .lit (.bool true), .lit (.bool false), .lit (.bool false), .iface "func" (.lit (.string [115, 105, 122, 97, 114, 47, 114, 117, 108, 101, 115, 46, 107, 105, 110, 100, 115, 36, 57])), .iface "func" (.lit (.string [115, 105, 122, 97, 114, 47, 114, 117, 108, 101, 115, 46, 107, 105, 110, 100, 115, 36, 49, 48]))], .agg [.lit (.bool true), .lit (.bool true), .lit (.bool false), .lit (.bool false), .iface "func" (.lit (.string [115, 105, 122, 97, 114, 47, 114, 117, 108, 101, 115, 46, 107, 105, 110, 100, 115, 36, 49, 49])), .iface "func" (.lit (.string [115, 105, 122, 97, 114, 47, 114, 117, 108, 101, 115, 46, 107, 105, 110, 100, 115, 36, 49, 50]))], .agg [.lit (.bool false), .lit (.bool true), .lit (.bool false), .lit (.bool false), .iface "func" (.lit (.string [115, 105, 122, 97, 114, 47, 114, 117, 108, 101, 115, 46, 107, 105, 110, 100, 115, 36, 49, 51])), .iface "func" (.lit (.string [115, 105, 122, 97, 114, 47, 114, 117, 108, 101, 115, 46, 107, 105, 110, 100, 115, 36, 49, 52]))], .agg [.lit (.bool false), .lit (.bool true), .lit (.bool true), .lit (.bool false), .iface "func" (.lit (.string [115, 105, 122, 97, 114, 47, 114, 117, 108, 101, 115, 46, 107, 105, 110, 100, 115, 36, 49, 53])), .iface "func" (.lit (.string [115, 105, 122, 97, 114, 47, 114, 117, 108, 101, 115, 46, 107, 105, 110, 100, 115, 36, 49, 54]))], .agg [.lit (.bool true), .lit (.bool false), .lit (.bool false), .lit (.bool false), .iface "func" (.lit (.string [115, 105, 122, 97, 114, 47, 114, 117, 108, 101, 115, 46, 99, 111, 117, 114, 115, 101])), .iface "func" (.lit (.string [115, 105, 122, 97, 114, 47, 114, 117, 108, 101, 115, 46, 107, 105, 110, 100, 115, 36, 49, 55]))]])

/-- 'sizarlaw16.RecordSituateSpec': WHATEVER THE INPUT: true; the input reads as it did. -/
def recordSituateSpecSpec : ChangeSpec := { name := "recordSituateSpec", fn := fun _ => fun
  | [d1, d2, d3, d4, d5] => { results := [.lit (.bool true)], args := [d1, d2, d3, d4, d5] }
  | _ => none }
def recordSituateSpecRow : OpenClaim := { program := "ytilebidefogaiaagreatdoor", sum := "2030d069e029d0ddfc4a4dc6ab449bab9c5419eb0cb0ce0c8bf4192aeddef436", func := "sizar/sizarlaw16.RecordSituateSpec", spec := "recordSituateSpec", unfollowed := true, recurses := true, named := ["sizar/rules.kinds"], loops := true, apart := false, laid := [("sizar/rules.kinds", laid_sizar_rules_kinds)] }
def RecordSituateSpecSaid : Prop := recordSituateSpecRow.holds Tryz.pinned (OpenSpec.ofChange recordSituateSpecSpec)

/-- ITS FALSE NEIGHBOUR: 'it returns false'. Refute it at one input. -/
def recordSituateSpecWrong : ChangeSpec := { name := "recordSituateSpec", fn := fun _ => fun
  | [d1, d2, d3, d4, d5] => { results := [.lit (.bool false)], args := [d1, d2, d3, d4, d5] }
  | _ => none }
def RecordSituateSpecWrongFalsely : Prop := recordSituateSpecRow.holds Tryz.pinned (OpenSpec.ofChange recordSituateSpecWrong)

/-- 'sizarlaw16.RecordPast': WHATEVER THE INPUT: true; the input reads as it did. -/
def recordPastSpec : ChangeSpec := { name := "recordPast", fn := fun _ => fun
  | [d1, d2, d3, d4, d5] => { results := [.lit (.bool true)], args := [d1, d2, d3, d4, d5] }
  | _ => none }
def recordPastRow : OpenClaim := { program := "ytilebidefogaiaagreatdoor", sum := "2030d069e029d0ddfc4a4dc6ab449bab9c5419eb0cb0ce0c8bf4192aeddef436", func := "sizar/sizarlaw16.RecordPast", spec := "recordPast", unfollowed := true, recurses := true, named := ["sizar/rules.kinds"], loops := true, apart := false, laid := [("sizar/rules.kinds", laid_sizar_rules_kinds)] }
def RecordPastSaid : Prop := recordPastRow.holds Tryz.pinned (OpenSpec.ofChange recordPastSpec)

/-- ITS FALSE NEIGHBOUR: 'it returns false'. Refute it at one input. -/
def recordPastWrong : ChangeSpec := { name := "recordPast", fn := fun _ => fun
  | [d1, d2, d3, d4, d5] => { results := [.lit (.bool false)], args := [d1, d2, d3, d4, d5] }
  | _ => none }
def RecordPastWrongFalsely : Prop := recordPastRow.holds Tryz.pinned (OpenSpec.ofChange recordPastWrong)

/-- 'sizarlaw16.RecordOfSpec': WHATEVER THE INPUT: true; the input reads as it did. -/
def recordOfSpecSpec : ChangeSpec := { name := "recordOfSpec", fn := fun _ => fun
  | [d1, d2, d3, d4, d5, d6, d7] => { results := [.lit (.bool true)], args := [d1, d2, d3, d4, d5, d6, d7] }
  | _ => none }
def recordOfSpecRow : OpenClaim := { program := "ytilebidefogaiaagreatdoor", sum := "2030d069e029d0ddfc4a4dc6ab449bab9c5419eb0cb0ce0c8bf4192aeddef436", func := "sizar/sizarlaw16.RecordOfSpec", spec := "recordOfSpec", unfollowed := true, recurses := true, named := ["sizar/rules.kinds"], loops := true, apart := false, laid := [("sizar/rules.kinds", laid_sizar_rules_kinds)] }
def RecordOfSpecSaid : Prop := recordOfSpecRow.holds Tryz.pinned (OpenSpec.ofChange recordOfSpecSpec)

/-- ITS FALSE NEIGHBOUR: 'it returns false'. Refute it at one input. -/
def recordOfSpecWrong : ChangeSpec := { name := "recordOfSpec", fn := fun _ => fun
  | [d1, d2, d3, d4, d5, d6, d7] => { results := [.lit (.bool false)], args := [d1, d2, d3, d4, d5, d6, d7] }
  | _ => none }
def RecordOfSpecWrongFalsely : Prop := recordOfSpecRow.holds Tryz.pinned (OpenSpec.ofChange recordOfSpecWrong)

/-- 'sizarlaw16.RecordAdds': WHATEVER THE INPUT: true; the input reads as it did. -/
def recordAddsSpec : ChangeSpec := { name := "recordAdds", fn := fun _ => fun
  | [d1, d2, d3, d4, d5, d6, d7, d8, d9] => { results := [.lit (.bool true)], args := [d1, d2, d3, d4, d5, d6, d7, d8, d9] }
  | _ => none }
def recordAddsRow : OpenClaim := { program := "ytilebidefogaiaagreatdoor", sum := "2030d069e029d0ddfc4a4dc6ab449bab9c5419eb0cb0ce0c8bf4192aeddef436", func := "sizar/sizarlaw16.RecordAdds", spec := "recordAdds", unfollowed := true, recurses := true, named := ["sizar/rules.kinds"], loops := true, apart := false, laid := [("sizar/rules.kinds", laid_sizar_rules_kinds)] }
def RecordAddsSaid : Prop := recordAddsRow.holds Tryz.pinned (OpenSpec.ofChange recordAddsSpec)

/-- ITS FALSE NEIGHBOUR: 'it returns false'. Refute it at one input. -/
def recordAddsWrong : ChangeSpec := { name := "recordAdds", fn := fun _ => fun
  | [d1, d2, d3, d4, d5, d6, d7, d8, d9] => { results := [.lit (.bool false)], args := [d1, d2, d3, d4, d5, d6, d7, d8, d9] }
  | _ => none }
def RecordAddsWrongFalsely : Prop := recordAddsRow.holds Tryz.pinned (OpenSpec.ofChange recordAddsWrong)

/-- 'sizarlaw21.StandingSpec': WHATEVER THE INPUT: true; the input reads as it did. -/
def standingSpecSpec : ChangeSpec := { name := "standingSpec", fn := fun _ => fun
  | [d1, d2, d3] => { results := [.lit (.bool true)], args := [d1, d2, d3] }
  | _ => none }
def standingSpecRow : OpenClaim := { program := "ytilebidefogaiaagreatdoor", sum := "2030d069e029d0ddfc4a4dc6ab449bab9c5419eb0cb0ce0c8bf4192aeddef436", func := "sizar/sizarlaw21.StandingSpec", spec := "standingSpec", unfollowed := true, recurses := true, named := ["sizar/rules.kinds"], apart := false, laid := [("sizar/rules.kinds", laid_sizar_rules_kinds)] }
def StandingSpecSaid : Prop := standingSpecRow.holds Tryz.pinned (OpenSpec.ofChange standingSpecSpec)

/-- ITS FALSE NEIGHBOUR: 'it returns false'. Refute it at one input. -/
def standingSpecWrong : ChangeSpec := { name := "standingSpec", fn := fun _ => fun
  | [d1, d2, d3] => { results := [.lit (.bool false)], args := [d1, d2, d3] }
  | _ => none }
def StandingSpecWrongFalsely : Prop := standingSpecRow.holds Tryz.pinned (OpenSpec.ofChange standingSpecWrong)

/-- 'sizarlaw21.StandingOfSpec': WHATEVER THE INPUT: true; the input reads as it did. -/
def standingOfSpecSpec : ChangeSpec := { name := "standingOfSpec", fn := fun _ => fun
  | [d1, d2, d3, d4, d5, d6] => { results := [.lit (.bool true)], args := [d1, d2, d3, d4, d5, d6] }
  | _ => none }
def standingOfSpecRow : OpenClaim := { program := "ytilebidefogaiaagreatdoor", sum := "2030d069e029d0ddfc4a4dc6ab449bab9c5419eb0cb0ce0c8bf4192aeddef436", func := "sizar/sizarlaw21.StandingOfSpec", spec := "standingOfSpec", unfollowed := true, recurses := true, named := ["sizar/rules.kinds"], loops := true, apart := false, laid := [("sizar/rules.kinds", laid_sizar_rules_kinds)] }
def StandingOfSpecSaid : Prop := standingOfSpecRow.holds Tryz.pinned (OpenSpec.ofChange standingOfSpecSpec)

/-- ITS FALSE NEIGHBOUR: 'it returns false'. Refute it at one input. -/
def standingOfSpecWrong : ChangeSpec := { name := "standingOfSpec", fn := fun _ => fun
  | [d1, d2, d3, d4, d5, d6] => { results := [.lit (.bool false)], args := [d1, d2, d3, d4, d5, d6] }
  | _ => none }
def StandingOfSpecWrongFalsely : Prop := standingOfSpecRow.holds Tryz.pinned (OpenSpec.ofChange standingOfSpecWrong)

/-- 'sizarlaw21.StandingLast': WHATEVER THE INPUT: true; the input reads as it did. -/
def standingLastSpec : ChangeSpec := { name := "standingLast", fn := fun _ => fun
  | [d1, d2, d3] => { results := [.lit (.bool true)], args := [d1, d2, d3] }
  | _ => none }
def standingLastRow : OpenClaim := { program := "ytilebidefogaiaagreatdoor", sum := "2030d069e029d0ddfc4a4dc6ab449bab9c5419eb0cb0ce0c8bf4192aeddef436", func := "sizar/sizarlaw21.StandingLast", spec := "standingLast", unfollowed := true, recurses := true, named := ["sizar/rules.kinds"], apart := false, laid := [("sizar/rules.kinds", laid_sizar_rules_kinds)] }
def StandingLastSaid : Prop := standingLastRow.holds Tryz.pinned (OpenSpec.ofChange standingLastSpec)

/-- ITS FALSE NEIGHBOUR: 'it returns false'. Refute it at one input. -/
def standingLastWrong : ChangeSpec := { name := "standingLast", fn := fun _ => fun
  | [d1, d2, d3] => { results := [.lit (.bool false)], args := [d1, d2, d3] }
  | _ => none }
def StandingLastWrongFalsely : Prop := standingLastRow.holds Tryz.pinned (OpenSpec.ofChange standingLastWrong)

/-- 'sizarlaw21.StandingMore': WHATEVER THE INPUT: true; the input reads as it did. -/
def standingMoreSpec : ChangeSpec := { name := "standingMore", fn := fun _ => fun
  | [d1, d2, d3, d4, d5] => { results := [.lit (.bool true)], args := [d1, d2, d3, d4, d5] }
  | _ => none }
def standingMoreRow : OpenClaim := { program := "ytilebidefogaiaagreatdoor", sum := "2030d069e029d0ddfc4a4dc6ab449bab9c5419eb0cb0ce0c8bf4192aeddef436", func := "sizar/sizarlaw21.StandingMore", spec := "standingMore", unfollowed := true, recurses := true, named := ["sizar/rules.kinds"], apart := false, laid := [("sizar/rules.kinds", laid_sizar_rules_kinds)] }
def StandingMoreSaid : Prop := standingMoreRow.holds Tryz.pinned (OpenSpec.ofChange standingMoreSpec)

/-- ITS FALSE NEIGHBOUR: 'it returns false'. Refute it at one input. -/
def standingMoreWrong : ChangeSpec := { name := "standingMore", fn := fun _ => fun
  | [d1, d2, d3, d4, d5] => { results := [.lit (.bool false)], args := [d1, d2, d3, d4, d5] }
  | _ => none }
def StandingMoreWrongFalsely : Prop := standingMoreRow.holds Tryz.pinned (OpenSpec.ofChange standingMoreWrong)

/-- 'sizarlaw21.StandingOf': WHATEVER THE INPUT: true; the input reads as it did. -/
def standingOfSpec : ChangeSpec := { name := "standingOf", fn := fun _ => fun
  | [d1, d2, d3, d4, d5] => { results := [.lit (.bool true)], args := [d1, d2, d3, d4, d5] }
  | _ => none }
def standingOfRow : OpenClaim := { program := "ytilebidefogaiaagreatdoor", sum := "2030d069e029d0ddfc4a4dc6ab449bab9c5419eb0cb0ce0c8bf4192aeddef436", func := "sizar/sizarlaw21.StandingOf", spec := "standingOf", unfollowed := true, recurses := true, named := ["sizar/rules.kinds"], loops := true, apart := false, laid := [("sizar/rules.kinds", laid_sizar_rules_kinds)] }
def StandingOfSaid : Prop := standingOfRow.holds Tryz.pinned (OpenSpec.ofChange standingOfSpec)

/-- ITS FALSE NEIGHBOUR: 'it returns false'. Refute it at one input. -/
def standingOfWrong : ChangeSpec := { name := "standingOf", fn := fun _ => fun
  | [d1, d2, d3, d4, d5] => { results := [.lit (.bool false)], args := [d1, d2, d3, d4, d5] }
  | _ => none }
def StandingOfWrongFalsely : Prop := standingOfRow.holds Tryz.pinned (OpenSpec.ofChange standingOfWrong)

/-- 'sizarlaw21.StandingNames': WHATEVER THE INPUT: true; the input reads as it did. -/
def standingNamesSpec : ChangeSpec := { name := "standingNames", fn := fun _ => fun
  | [d1, d2, d3, d4, d5] => { results := [.lit (.bool true)], args := [d1, d2, d3, d4, d5] }
  | _ => none }
def standingNamesRow : OpenClaim := { program := "ytilebidefogaiaagreatdoor", sum := "2030d069e029d0ddfc4a4dc6ab449bab9c5419eb0cb0ce0c8bf4192aeddef436", func := "sizar/sizarlaw21.StandingNames", spec := "standingNames", unfollowed := true, recurses := true, named := ["sizar/rules.kinds"], apart := false, laid := [("sizar/rules.kinds", laid_sizar_rules_kinds)] }
def StandingNamesSaid : Prop := standingNamesRow.holds Tryz.pinned (OpenSpec.ofChange standingNamesSpec)

/-- ITS FALSE NEIGHBOUR: 'it returns false'. Refute it at one input. -/
def standingNamesWrong : ChangeSpec := { name := "standingNames", fn := fun _ => fun
  | [d1, d2, d3, d4, d5] => { results := [.lit (.bool false)], args := [d1, d2, d3, d4, d5] }
  | _ => none }
def StandingNamesWrongFalsely : Prop := standingNamesRow.holds Tryz.pinned (OpenSpec.ofChange standingNamesWrong)

/-- 'sizarlaw16.RecordAlike': WHATEVER THE INPUT: true; the input reads as it did. -/
def recordAlikeSpec : ChangeSpec := { name := "recordAlike", fn := fun _ => fun
  | [d1, d2, d3, d4, d5, d6] => { results := [.lit (.bool true)], args := [d1, d2, d3, d4, d5, d6] }
  | _ => none }
def recordAlikeRow : OpenClaim := { program := "ytilebidefogaiaagreatdoor", sum := "2030d069e029d0ddfc4a4dc6ab449bab9c5419eb0cb0ce0c8bf4192aeddef436", func := "sizar/sizarlaw16.RecordAlike", spec := "recordAlike", unfollowed := true, recurses := true, named := ["sizar/rules.kinds"], loops := true, apart := false, laid := [("sizar/rules.kinds", laid_sizar_rules_kinds)] }
def RecordAlikeSaid : Prop := recordAlikeRow.holds Tryz.pinned (OpenSpec.ofChange recordAlikeSpec)

/-- ITS FALSE NEIGHBOUR: 'it returns false'. Refute it at one input. -/
def recordAlikeWrong : ChangeSpec := { name := "recordAlike", fn := fun _ => fun
  | [d1, d2, d3, d4, d5, d6] => { results := [.lit (.bool false)], args := [d1, d2, d3, d4, d5, d6] }
  | _ => none }
def RecordAlikeWrongFalsely : Prop := recordAlikeRow.holds Tryz.pinned (OpenSpec.ofChange recordAlikeWrong)

/-- 'sizarlaw16.RecordCountedSpec': WHATEVER THE INPUT: true; the input reads as it did. -/
def recordCountedSpecSpec : ChangeSpec := { name := "recordCountedSpec", fn := fun _ => fun
  | [d1, d2, d3, d4] => { results := [.lit (.bool true)], args := [d1, d2, d3, d4] }
  | _ => none }
def recordCountedSpecRow : OpenClaim := { program := "ytilebidefogaiaagreatdoor", sum := "2030d069e029d0ddfc4a4dc6ab449bab9c5419eb0cb0ce0c8bf4192aeddef436", func := "sizar/sizarlaw16.RecordCountedSpec", spec := "recordCountedSpec", unfollowed := true, recurses := true, named := ["sizar/rules.kinds"], loops := true, apart := false, laid := [("sizar/rules.kinds", laid_sizar_rules_kinds)] }
def RecordCountedSpecSaid : Prop := recordCountedSpecRow.holds Tryz.pinned (OpenSpec.ofChange recordCountedSpecSpec)

/-- ITS FALSE NEIGHBOUR: 'it returns false'. Refute it at one input. -/
def recordCountedSpecWrong : ChangeSpec := { name := "recordCountedSpec", fn := fun _ => fun
  | [d1, d2, d3, d4] => { results := [.lit (.bool false)], args := [d1, d2, d3, d4] }
  | _ => none }
def RecordCountedSpecWrongFalsely : Prop := recordCountedSpecRow.holds Tryz.pinned (OpenSpec.ofChange recordCountedSpecWrong)

/-- 'sizarlaw16.RecordFits': WHATEVER THE INPUT: true; the input reads as it did. -/
def recordFitsSpec : ChangeSpec := { name := "recordFits", fn := fun _ => fun
  | [d1, d2, d3, d4, d5] => { results := [.lit (.bool true)], args := [d1, d2, d3, d4, d5] }
  | _ => none }
def recordFitsRow : OpenClaim := { program := "ytilebidefogaiaagreatdoor", sum := "2030d069e029d0ddfc4a4dc6ab449bab9c5419eb0cb0ce0c8bf4192aeddef436", func := "sizar/sizarlaw16.RecordFits", spec := "recordFits", unfollowed := true, recurses := true, named := ["sizar/rules.kinds"], loops := true, apart := false, laid := [("sizar/rules.kinds", laid_sizar_rules_kinds)] }
def RecordFitsSaid : Prop := recordFitsRow.holds Tryz.pinned (OpenSpec.ofChange recordFitsSpec)

/-- ITS FALSE NEIGHBOUR: 'it returns false'. Refute it at one input. -/
def recordFitsWrong : ChangeSpec := { name := "recordFits", fn := fun _ => fun
  | [d1, d2, d3, d4, d5] => { results := [.lit (.bool false)], args := [d1, d2, d3, d4, d5] }
  | _ => none }
def RecordFitsWrongFalsely : Prop := recordFitsRow.holds Tryz.pinned (OpenSpec.ofChange recordFitsWrong)

/-- 'sizarlaw21.StandingAlike': WHATEVER THE INPUT: true; the input reads as it did. -/
def standingAlikeSpec : ChangeSpec := { name := "standingAlike", fn := fun _ => fun
  | [d1, d2, d3, d4, d5, d6, d7] => { results := [.lit (.bool true)], args := [d1, d2, d3, d4, d5, d6, d7] }
  | _ => none }
def standingAlikeRow : OpenClaim := { program := "ytilebidefogaiaagreatdoor", sum := "2030d069e029d0ddfc4a4dc6ab449bab9c5419eb0cb0ce0c8bf4192aeddef436", func := "sizar/sizarlaw21.StandingAlike", spec := "standingAlike", unfollowed := true, recurses := true, named := ["sizar/rules.kinds"], loops := true, apart := false, laid := [("sizar/rules.kinds", laid_sizar_rules_kinds)] }
def StandingAlikeSaid : Prop := standingAlikeRow.holds Tryz.pinned (OpenSpec.ofChange standingAlikeSpec)

/-- ITS FALSE NEIGHBOUR: 'it returns false'. Refute it at one input. -/
def standingAlikeWrong : ChangeSpec := { name := "standingAlike", fn := fun _ => fun
  | [d1, d2, d3, d4, d5, d6, d7] => { results := [.lit (.bool false)], args := [d1, d2, d3, d4, d5, d6, d7] }
  | _ => none }
def StandingAlikeWrongFalsely : Prop := standingAlikeRow.holds Tryz.pinned (OpenSpec.ofChange standingAlikeWrong)

/- THE SECOND FORM. 'bulk': how many values and letters a reading holds, each counted each time it is reached (what is shared counts as often as it is met; a slice's spare places count too). A statement '..UptoSaid' is the law's where the arguments, and the package variables that the reading takes, are together of bulk at most 1048576: NARROWER than '..Said'. Prove '..Said' where nothing that the law and all that it calls make is longer than what came in: it says more and counts as full. Else prove '..UptoSaid'. A law counts once. -/
mutual
def uptoBulk {H : Type} : DataW H → Nat
  | .lit (.string bytes) => bytes.length + 1
  | .lit _ => 1
  | .nil => 1
  | .ptr d => uptoBulk d + 1
  | .slice elems spare => uptoBulkAll elems + uptoBulkAll spare + 1
  | .agg parts => uptoBulkAll parts + 1
  | .iface _ d => uptoBulk d + 1
  | .map entries => uptoBulkEntries entries + 1
  | .held _ => 1
def uptoBulkAll {H : Type} : List (DataW H) → Nat
  | [] => 0
  | d :: r => uptoBulk d + uptoBulkAll r
def uptoBulkEntries {H : Type} : List (Lit × DataW H) → Nat
  | [] => 0
  | x :: r => uptoBulkEntry x + uptoBulkEntries r
def uptoBulkEntry {H : Type} : Lit × DataW H → Nat
  | (.string bytes, d) => bytes.length + uptoBulk d + 1
  | (_, d) => uptoBulk d + 1
 end
def uptoSmall : (H : Type) → List (DataW H) → Bool := fun _ ds => decide (uptoBulkAll ds ≤ 1048576)
def OpenSpec.upto (s : _root_.Go.ChangeSpec) : _root_.Go.OpenSpec := { _root_.Go.OpenSpec.ofChange s with cond := some uptoSmall }

/-- 'sizarlaw16.RecordSituateSpec', WHERE WHAT IT READS IS OF BULK AT MOST 1048576: true; the input reads as it did. -/
def recordSituateSpecUptoRow : OpenClaim := { program := "ytilebidefogaiaagreatdoor", sum := "2030d069e029d0ddfc4a4dc6ab449bab9c5419eb0cb0ce0c8bf4192aeddef436", func := "sizar/sizarlaw16.RecordSituateSpec", spec := "recordSituateSpec", unfollowed := true, recurses := true, named := ["sizar/rules.kinds"], loops := true, apart := false, laid := [("sizar/rules.kinds", laid_sizar_rules_kinds)], narrowed := true }
def RecordSituateSpecUptoSaid : Prop := recordSituateSpecUptoRow.holds Tryz.pinned (OpenSpec.upto recordSituateSpecSpec)

/-- 'sizarlaw16.RecordPast', WHERE WHAT IT READS IS OF BULK AT MOST 1048576: true; the input reads as it did. -/
def recordPastUptoRow : OpenClaim := { program := "ytilebidefogaiaagreatdoor", sum := "2030d069e029d0ddfc4a4dc6ab449bab9c5419eb0cb0ce0c8bf4192aeddef436", func := "sizar/sizarlaw16.RecordPast", spec := "recordPast", unfollowed := true, recurses := true, named := ["sizar/rules.kinds"], loops := true, apart := false, laid := [("sizar/rules.kinds", laid_sizar_rules_kinds)], narrowed := true }
def RecordPastUptoSaid : Prop := recordPastUptoRow.holds Tryz.pinned (OpenSpec.upto recordPastSpec)

/-- 'sizarlaw16.RecordOfSpec', WHERE WHAT IT READS IS OF BULK AT MOST 1048576: true; the input reads as it did. -/
def recordOfSpecUptoRow : OpenClaim := { program := "ytilebidefogaiaagreatdoor", sum := "2030d069e029d0ddfc4a4dc6ab449bab9c5419eb0cb0ce0c8bf4192aeddef436", func := "sizar/sizarlaw16.RecordOfSpec", spec := "recordOfSpec", unfollowed := true, recurses := true, named := ["sizar/rules.kinds"], loops := true, apart := false, laid := [("sizar/rules.kinds", laid_sizar_rules_kinds)], narrowed := true }
def RecordOfSpecUptoSaid : Prop := recordOfSpecUptoRow.holds Tryz.pinned (OpenSpec.upto recordOfSpecSpec)

/-- 'sizarlaw16.RecordAdds', WHERE WHAT IT READS IS OF BULK AT MOST 1048576: true; the input reads as it did. -/
def recordAddsUptoRow : OpenClaim := { program := "ytilebidefogaiaagreatdoor", sum := "2030d069e029d0ddfc4a4dc6ab449bab9c5419eb0cb0ce0c8bf4192aeddef436", func := "sizar/sizarlaw16.RecordAdds", spec := "recordAdds", unfollowed := true, recurses := true, named := ["sizar/rules.kinds"], loops := true, apart := false, laid := [("sizar/rules.kinds", laid_sizar_rules_kinds)], narrowed := true }
def RecordAddsUptoSaid : Prop := recordAddsUptoRow.holds Tryz.pinned (OpenSpec.upto recordAddsSpec)

/-- 'sizarlaw21.StandingSpec', WHERE WHAT IT READS IS OF BULK AT MOST 1048576: true; the input reads as it did. -/
def standingSpecUptoRow : OpenClaim := { program := "ytilebidefogaiaagreatdoor", sum := "2030d069e029d0ddfc4a4dc6ab449bab9c5419eb0cb0ce0c8bf4192aeddef436", func := "sizar/sizarlaw21.StandingSpec", spec := "standingSpec", unfollowed := true, recurses := true, named := ["sizar/rules.kinds"], apart := false, laid := [("sizar/rules.kinds", laid_sizar_rules_kinds)], narrowed := true }
def StandingSpecUptoSaid : Prop := standingSpecUptoRow.holds Tryz.pinned (OpenSpec.upto standingSpecSpec)

/-- 'sizarlaw21.StandingOfSpec', WHERE WHAT IT READS IS OF BULK AT MOST 1048576: true; the input reads as it did. -/
def standingOfSpecUptoRow : OpenClaim := { program := "ytilebidefogaiaagreatdoor", sum := "2030d069e029d0ddfc4a4dc6ab449bab9c5419eb0cb0ce0c8bf4192aeddef436", func := "sizar/sizarlaw21.StandingOfSpec", spec := "standingOfSpec", unfollowed := true, recurses := true, named := ["sizar/rules.kinds"], loops := true, apart := false, laid := [("sizar/rules.kinds", laid_sizar_rules_kinds)], narrowed := true }
def StandingOfSpecUptoSaid : Prop := standingOfSpecUptoRow.holds Tryz.pinned (OpenSpec.upto standingOfSpecSpec)

/-- 'sizarlaw21.StandingLast', WHERE WHAT IT READS IS OF BULK AT MOST 1048576: true; the input reads as it did. -/
def standingLastUptoRow : OpenClaim := { program := "ytilebidefogaiaagreatdoor", sum := "2030d069e029d0ddfc4a4dc6ab449bab9c5419eb0cb0ce0c8bf4192aeddef436", func := "sizar/sizarlaw21.StandingLast", spec := "standingLast", unfollowed := true, recurses := true, named := ["sizar/rules.kinds"], apart := false, laid := [("sizar/rules.kinds", laid_sizar_rules_kinds)], narrowed := true }
def StandingLastUptoSaid : Prop := standingLastUptoRow.holds Tryz.pinned (OpenSpec.upto standingLastSpec)

/-- 'sizarlaw21.StandingMore', WHERE WHAT IT READS IS OF BULK AT MOST 1048576: true; the input reads as it did. -/
def standingMoreUptoRow : OpenClaim := { program := "ytilebidefogaiaagreatdoor", sum := "2030d069e029d0ddfc4a4dc6ab449bab9c5419eb0cb0ce0c8bf4192aeddef436", func := "sizar/sizarlaw21.StandingMore", spec := "standingMore", unfollowed := true, recurses := true, named := ["sizar/rules.kinds"], apart := false, laid := [("sizar/rules.kinds", laid_sizar_rules_kinds)], narrowed := true }
def StandingMoreUptoSaid : Prop := standingMoreUptoRow.holds Tryz.pinned (OpenSpec.upto standingMoreSpec)

/-- 'sizarlaw21.StandingOf', WHERE WHAT IT READS IS OF BULK AT MOST 1048576: true; the input reads as it did. -/
def standingOfUptoRow : OpenClaim := { program := "ytilebidefogaiaagreatdoor", sum := "2030d069e029d0ddfc4a4dc6ab449bab9c5419eb0cb0ce0c8bf4192aeddef436", func := "sizar/sizarlaw21.StandingOf", spec := "standingOf", unfollowed := true, recurses := true, named := ["sizar/rules.kinds"], loops := true, apart := false, laid := [("sizar/rules.kinds", laid_sizar_rules_kinds)], narrowed := true }
def StandingOfUptoSaid : Prop := standingOfUptoRow.holds Tryz.pinned (OpenSpec.upto standingOfSpec)

/-- 'sizarlaw21.StandingNames', WHERE WHAT IT READS IS OF BULK AT MOST 1048576: true; the input reads as it did. -/
def standingNamesUptoRow : OpenClaim := { program := "ytilebidefogaiaagreatdoor", sum := "2030d069e029d0ddfc4a4dc6ab449bab9c5419eb0cb0ce0c8bf4192aeddef436", func := "sizar/sizarlaw21.StandingNames", spec := "standingNames", unfollowed := true, recurses := true, named := ["sizar/rules.kinds"], apart := false, laid := [("sizar/rules.kinds", laid_sizar_rules_kinds)], narrowed := true }
def StandingNamesUptoSaid : Prop := standingNamesUptoRow.holds Tryz.pinned (OpenSpec.upto standingNamesSpec)

/-- 'sizarlaw16.RecordAlike', WHERE WHAT IT READS IS OF BULK AT MOST 1048576: true; the input reads as it did. -/
def recordAlikeUptoRow : OpenClaim := { program := "ytilebidefogaiaagreatdoor", sum := "2030d069e029d0ddfc4a4dc6ab449bab9c5419eb0cb0ce0c8bf4192aeddef436", func := "sizar/sizarlaw16.RecordAlike", spec := "recordAlike", unfollowed := true, recurses := true, named := ["sizar/rules.kinds"], loops := true, apart := false, laid := [("sizar/rules.kinds", laid_sizar_rules_kinds)], narrowed := true }
def RecordAlikeUptoSaid : Prop := recordAlikeUptoRow.holds Tryz.pinned (OpenSpec.upto recordAlikeSpec)

/-- 'sizarlaw16.RecordCountedSpec', WHERE WHAT IT READS IS OF BULK AT MOST 1048576: true; the input reads as it did. -/
def recordCountedSpecUptoRow : OpenClaim := { program := "ytilebidefogaiaagreatdoor", sum := "2030d069e029d0ddfc4a4dc6ab449bab9c5419eb0cb0ce0c8bf4192aeddef436", func := "sizar/sizarlaw16.RecordCountedSpec", spec := "recordCountedSpec", unfollowed := true, recurses := true, named := ["sizar/rules.kinds"], loops := true, apart := false, laid := [("sizar/rules.kinds", laid_sizar_rules_kinds)], narrowed := true }
def RecordCountedSpecUptoSaid : Prop := recordCountedSpecUptoRow.holds Tryz.pinned (OpenSpec.upto recordCountedSpecSpec)

/-- 'sizarlaw16.RecordFits', WHERE WHAT IT READS IS OF BULK AT MOST 1048576: true; the input reads as it did. -/
def recordFitsUptoRow : OpenClaim := { program := "ytilebidefogaiaagreatdoor", sum := "2030d069e029d0ddfc4a4dc6ab449bab9c5419eb0cb0ce0c8bf4192aeddef436", func := "sizar/sizarlaw16.RecordFits", spec := "recordFits", unfollowed := true, recurses := true, named := ["sizar/rules.kinds"], loops := true, apart := false, laid := [("sizar/rules.kinds", laid_sizar_rules_kinds)], narrowed := true }
def RecordFitsUptoSaid : Prop := recordFitsUptoRow.holds Tryz.pinned (OpenSpec.upto recordFitsSpec)

/-- 'sizarlaw21.StandingAlike', WHERE WHAT IT READS IS OF BULK AT MOST 1048576: true; the input reads as it did. -/
def standingAlikeUptoRow : OpenClaim := { program := "ytilebidefogaiaagreatdoor", sum := "2030d069e029d0ddfc4a4dc6ab449bab9c5419eb0cb0ce0c8bf4192aeddef436", func := "sizar/sizarlaw21.StandingAlike", spec := "standingAlike", unfollowed := true, recurses := true, named := ["sizar/rules.kinds"], loops := true, apart := false, laid := [("sizar/rules.kinds", laid_sizar_rules_kinds)], narrowed := true }
def StandingAlikeUptoSaid : Prop := standingAlikeUptoRow.holds Tryz.pinned (OpenSpec.upto standingAlikeSpec)

end Rows
end Go.Proofs.YtilebidefogaiaaGreatDoor
