/-
  NARROWER THAN 'FOR EVERY INPUT', by the rows' own cells (each row's printed sentence says how): ProgGoals: loops, laid · ProgWritten: loops, laid · ProgTerms: loops, laid · ProgKept: loops, laid · ProgChecks: loops, laid · ProgFresh: loops, laid · ProgComponents: loops, laid · ProgCalls: loops, laid · ProgTrims: loops, laid · ProgJoins: loops, laid · ProgForms: loops, laid · ProgOrders: loops, laid · ProgJoined: loops, laid.
  DERIVED. THE GIVEN ROWS OF THIS SEAT. 13 by the template 'for every input the law returns true; each argument reads behind the call as it read before'; 0 by the template 'total and deterministic' (their statements: YtndcajdameofjaaGreatDoorTotals.lean).
  GIVEN WITH THE SEED: the statements are not yours to turn. If you find one false, say at which input.
  Laid BY PROGRAM, IN A SANDBOX (cutbox-rows.mjs): the forced cells as the released guide's own fill.sh prints them over the translation ba8f12e70a4434b1… (all of the seat's roots in one cut). By AI agents, Wed Nov 11 2026. No macro, syntax, notation, axiom, sorry.
-/
import Derived.Test.YtndcajdameofjaaGreatDoorChecked
import GoSem.Claim
import GoSem.ClaimJoined
import GoSem.ClaimMapViews
import Derived.JoinedTies
import Derived.KernelRfl
namespace Go.Proofs.YtndcajdameofjaaGreatDoor
/- THE CELL 'sum', in the pinned program and in every row, IS THE sha256 OF THE DUMP (.gsa) THAT YtndcajdameofjaaGreatDoorProg.lean LOADS. Nothing in Lean hashes anything: it is a label: what it is worth is what the hold of that sum in a sandbox is worth. -/
noncomputable def Tryz.pinned : Pinned := { name := "ytndcajdameofjaagreatdoor", sum := "ba8f12e70a4434b1e329de4dce2055db5b4d6ff23aea0100ab591e5da5f937d8", checked := Tryz.checked }
namespace Rows
def none {H : Type} : Left H := { results := [], args := [] }

/- WHAT THE LISTED PACKAGE-LEVEL VARIABLES READ AS WHEN THE CALL BEGINS. Each datum BY PROGRAM (the guide's laid-datum.mjs) off the statement by which the dump's own 'gosem.cut.vars' lays the variable. In a bare row this is a premise. The card (YtndcajdameofjaaGreatDoorCards.lean) ties it to the program's text. -/
def laid_riparian_prog_calculations {H : Type} : DataW H := .agg [.lit (.string [43]), .lit (.string [45]), .lit (.string [42]), .lit (.string [47]), .lit (.string [109, 111, 100]), .lit (.string [45])]

/-- 'riparianlaw04.ProgGoals': WHATEVER THE INPUT: true; the input reads as it did. -/
def progGoalsSpec : ChangeSpec := { name := "progGoals", fn := fun _ => fun
  | [d1, d2] => { results := [.lit (.bool true)], args := [d1, d2] }
  | _ => none }
def progGoalsRow : OpenClaim := { program := "ytndcajdameofjaagreatdoor", sum := "ba8f12e70a4434b1e329de4dce2055db5b4d6ff23aea0100ab591e5da5f937d8", func := "riparian/riparianlaw04.ProgGoals", spec := "progGoals", unfollowed := true, recurses := true, named := ["riparian/prog.calculations"], loops := true, plainKeys := false, apart := false, laid := [("riparian/prog.calculations", laid_riparian_prog_calculations)] }
def ProgGoalsSaid : Prop := progGoalsRow.holds Tryz.pinned (OpenSpec.ofChange progGoalsSpec)

/-- ITS FALSE NEIGHBOUR: 'it returns false'. Refute it at one input. -/
def progGoalsWrong : ChangeSpec := { name := "progGoals", fn := fun _ => fun
  | [d1, d2] => { results := [.lit (.bool false)], args := [d1, d2] }
  | _ => none }
def ProgGoalsWrongFalsely : Prop := progGoalsRow.holds Tryz.pinned (OpenSpec.ofChange progGoalsWrong)

/-- 'riparianlaw04.ProgWritten': WHATEVER THE INPUT: true; the input reads as it did. -/
def progWrittenSpec : ChangeSpec := { name := "progWritten", fn := fun _ => fun
  | [d1, d2] => { results := [.lit (.bool true)], args := [d1, d2] }
  | _ => none }
def progWrittenRow : OpenClaim := { program := "ytndcajdameofjaagreatdoor", sum := "ba8f12e70a4434b1e329de4dce2055db5b4d6ff23aea0100ab591e5da5f937d8", func := "riparian/riparianlaw04.ProgWritten", spec := "progWritten", unfollowed := true, recurses := true, named := ["riparian/prog.calculations"], loops := true, plainKeys := false, apart := false, laid := [("riparian/prog.calculations", laid_riparian_prog_calculations)] }
def ProgWrittenSaid : Prop := progWrittenRow.holds Tryz.pinned (OpenSpec.ofChange progWrittenSpec)

/-- ITS FALSE NEIGHBOUR: 'it returns false'. Refute it at one input. -/
def progWrittenWrong : ChangeSpec := { name := "progWritten", fn := fun _ => fun
  | [d1, d2] => { results := [.lit (.bool false)], args := [d1, d2] }
  | _ => none }
def ProgWrittenWrongFalsely : Prop := progWrittenRow.holds Tryz.pinned (OpenSpec.ofChange progWrittenWrong)

/-- 'riparianlaw04.ProgTerms': WHATEVER THE INPUT: true; the input reads as it did. -/
def progTermsSpec : ChangeSpec := { name := "progTerms", fn := fun _ => fun
  | [d1, d2, d3, d4] => { results := [.lit (.bool true)], args := [d1, d2, d3, d4] }
  | _ => none }
def progTermsRow : OpenClaim := { program := "ytndcajdameofjaagreatdoor", sum := "ba8f12e70a4434b1e329de4dce2055db5b4d6ff23aea0100ab591e5da5f937d8", func := "riparian/riparianlaw04.ProgTerms", spec := "progTerms", unfollowed := true, recurses := true, named := ["riparian/prog.calculations"], loops := true, plainKeys := false, apart := false, laid := [("riparian/prog.calculations", laid_riparian_prog_calculations)] }
def ProgTermsSaid : Prop := progTermsRow.holds Tryz.pinned (OpenSpec.ofChange progTermsSpec)

/-- ITS FALSE NEIGHBOUR: 'it returns false'. Refute it at one input. -/
def progTermsWrong : ChangeSpec := { name := "progTerms", fn := fun _ => fun
  | [d1, d2, d3, d4] => { results := [.lit (.bool false)], args := [d1, d2, d3, d4] }
  | _ => none }
def ProgTermsWrongFalsely : Prop := progTermsRow.holds Tryz.pinned (OpenSpec.ofChange progTermsWrong)

/-- 'riparianlaw04.ProgKept': WHATEVER THE INPUT: true; the input reads as it did. -/
def progKeptSpec : ChangeSpec := { name := "progKept", fn := fun _ => fun
  | [d1, d2, d3, d4, d5] => { results := [.lit (.bool true)], args := [d1, d2, d3, d4, d5] }
  | _ => none }
def progKeptRow : OpenClaim := { program := "ytndcajdameofjaagreatdoor", sum := "ba8f12e70a4434b1e329de4dce2055db5b4d6ff23aea0100ab591e5da5f937d8", func := "riparian/riparianlaw04.ProgKept", spec := "progKept", unfollowed := true, recurses := true, named := ["riparian/prog.calculations"], loops := true, plainKeys := false, apart := false, laid := [("riparian/prog.calculations", laid_riparian_prog_calculations)] }
def ProgKeptSaid : Prop := progKeptRow.holds Tryz.pinned (OpenSpec.ofChange progKeptSpec)

/-- ITS FALSE NEIGHBOUR: 'it returns false'. Refute it at one input. -/
def progKeptWrong : ChangeSpec := { name := "progKept", fn := fun _ => fun
  | [d1, d2, d3, d4, d5] => { results := [.lit (.bool false)], args := [d1, d2, d3, d4, d5] }
  | _ => none }
def ProgKeptWrongFalsely : Prop := progKeptRow.holds Tryz.pinned (OpenSpec.ofChange progKeptWrong)

/-- 'riparianlaw04.ProgChecks': WHATEVER THE INPUT: true; the input reads as it did. -/
def progChecksSpec : ChangeSpec := { name := "progChecks", fn := fun _ => fun
  | [d1, d2, d3, d4, d5] => { results := [.lit (.bool true)], args := [d1, d2, d3, d4, d5] }
  | _ => none }
def progChecksRow : OpenClaim := { program := "ytndcajdameofjaagreatdoor", sum := "ba8f12e70a4434b1e329de4dce2055db5b4d6ff23aea0100ab591e5da5f937d8", func := "riparian/riparianlaw04.ProgChecks", spec := "progChecks", unfollowed := true, recurses := true, named := ["riparian/prog.calculations"], loops := true, plainKeys := false, apart := false, laid := [("riparian/prog.calculations", laid_riparian_prog_calculations)] }
def ProgChecksSaid : Prop := progChecksRow.holds Tryz.pinned (OpenSpec.ofChange progChecksSpec)

/-- ITS FALSE NEIGHBOUR: 'it returns false'. Refute it at one input. -/
def progChecksWrong : ChangeSpec := { name := "progChecks", fn := fun _ => fun
  | [d1, d2, d3, d4, d5] => { results := [.lit (.bool false)], args := [d1, d2, d3, d4, d5] }
  | _ => none }
def ProgChecksWrongFalsely : Prop := progChecksRow.holds Tryz.pinned (OpenSpec.ofChange progChecksWrong)

/-- 'riparianlaw04.ProgFresh': WHATEVER THE INPUT: true; the input reads as it did. -/
def progFreshSpec : ChangeSpec := { name := "progFresh", fn := fun _ => fun
  | [d1, d2, d3] => { results := [.lit (.bool true)], args := [d1, d2, d3] }
  | _ => none }
def progFreshRow : OpenClaim := { program := "ytndcajdameofjaagreatdoor", sum := "ba8f12e70a4434b1e329de4dce2055db5b4d6ff23aea0100ab591e5da5f937d8", func := "riparian/riparianlaw04.ProgFresh", spec := "progFresh", unfollowed := true, recurses := true, named := ["riparian/prog.calculations"], loops := true, plainKeys := false, apart := false, laid := [("riparian/prog.calculations", laid_riparian_prog_calculations)] }
def ProgFreshSaid : Prop := progFreshRow.holds Tryz.pinned (OpenSpec.ofChange progFreshSpec)

/-- ITS FALSE NEIGHBOUR: 'it returns false'. Refute it at one input. -/
def progFreshWrong : ChangeSpec := { name := "progFresh", fn := fun _ => fun
  | [d1, d2, d3] => { results := [.lit (.bool false)], args := [d1, d2, d3] }
  | _ => none }
def ProgFreshWrongFalsely : Prop := progFreshRow.holds Tryz.pinned (OpenSpec.ofChange progFreshWrong)

/-- 'riparianlaw04.ProgComponents': WHATEVER THE INPUT: true; the input reads as it did. -/
def progComponentsSpec : ChangeSpec := { name := "progComponents", fn := fun _ => fun
  | [d1, d2] => { results := [.lit (.bool true)], args := [d1, d2] }
  | _ => none }
def progComponentsRow : OpenClaim := { program := "ytndcajdameofjaagreatdoor", sum := "ba8f12e70a4434b1e329de4dce2055db5b4d6ff23aea0100ab591e5da5f937d8", func := "riparian/riparianlaw04.ProgComponents", spec := "progComponents", unfollowed := true, recurses := true, named := ["riparian/prog.calculations"], loops := true, plainKeys := false, apart := false, laid := [("riparian/prog.calculations", laid_riparian_prog_calculations)] }
def ProgComponentsSaid : Prop := progComponentsRow.holds Tryz.pinned (OpenSpec.ofChange progComponentsSpec)

/-- ITS FALSE NEIGHBOUR: 'it returns false'. Refute it at one input. -/
def progComponentsWrong : ChangeSpec := { name := "progComponents", fn := fun _ => fun
  | [d1, d2] => { results := [.lit (.bool false)], args := [d1, d2] }
  | _ => none }
def ProgComponentsWrongFalsely : Prop := progComponentsRow.holds Tryz.pinned (OpenSpec.ofChange progComponentsWrong)

/-- 'riparianlaw04.ProgCalls': WHATEVER THE INPUT: true; the input reads as it did. -/
def progCallsSpec : ChangeSpec := { name := "progCalls", fn := fun _ => fun
  | [d1, d2, d3] => { results := [.lit (.bool true)], args := [d1, d2, d3] }
  | _ => none }
def progCallsRow : OpenClaim := { program := "ytndcajdameofjaagreatdoor", sum := "ba8f12e70a4434b1e329de4dce2055db5b4d6ff23aea0100ab591e5da5f937d8", func := "riparian/riparianlaw04.ProgCalls", spec := "progCalls", unfollowed := true, recurses := true, named := ["riparian/prog.calculations"], loops := true, plainKeys := false, apart := false, laid := [("riparian/prog.calculations", laid_riparian_prog_calculations)] }
def ProgCallsSaid : Prop := progCallsRow.holds Tryz.pinned (OpenSpec.ofChange progCallsSpec)

/-- ITS FALSE NEIGHBOUR: 'it returns false'. Refute it at one input. -/
def progCallsWrong : ChangeSpec := { name := "progCalls", fn := fun _ => fun
  | [d1, d2, d3] => { results := [.lit (.bool false)], args := [d1, d2, d3] }
  | _ => none }
def ProgCallsWrongFalsely : Prop := progCallsRow.holds Tryz.pinned (OpenSpec.ofChange progCallsWrong)

/-- 'riparianlaw04.ProgTrims': WHATEVER THE INPUT: true; the input reads as it did. -/
def progTrimsSpec : ChangeSpec := { name := "progTrims", fn := fun _ => fun
  | [d1, d2] => { results := [.lit (.bool true)], args := [d1, d2] }
  | _ => none }
def progTrimsRow : OpenClaim := { program := "ytndcajdameofjaagreatdoor", sum := "ba8f12e70a4434b1e329de4dce2055db5b4d6ff23aea0100ab591e5da5f937d8", func := "riparian/riparianlaw04.ProgTrims", spec := "progTrims", unfollowed := true, recurses := true, named := ["riparian/prog.calculations"], loops := true, plainKeys := false, apart := false, laid := [("riparian/prog.calculations", laid_riparian_prog_calculations)] }
def ProgTrimsSaid : Prop := progTrimsRow.holds Tryz.pinned (OpenSpec.ofChange progTrimsSpec)

/-- ITS FALSE NEIGHBOUR: 'it returns false'. Refute it at one input. -/
def progTrimsWrong : ChangeSpec := { name := "progTrims", fn := fun _ => fun
  | [d1, d2] => { results := [.lit (.bool false)], args := [d1, d2] }
  | _ => none }
def ProgTrimsWrongFalsely : Prop := progTrimsRow.holds Tryz.pinned (OpenSpec.ofChange progTrimsWrong)

/-- 'riparianlaw04.ProgJoins': WHATEVER THE INPUT: true; the input reads as it did. -/
def progJoinsSpec : ChangeSpec := { name := "progJoins", fn := fun _ => fun
  | [d] => { results := [.lit (.bool true)], args := [d] }
  | _ => none }
def progJoinsRow : OpenClaim := { program := "ytndcajdameofjaagreatdoor", sum := "ba8f12e70a4434b1e329de4dce2055db5b4d6ff23aea0100ab591e5da5f937d8", func := "riparian/riparianlaw04.ProgJoins", spec := "progJoins", inPlace := ["internal/bytealg.IndexByteString", "internal/bytealg.IndexString"], unfollowed := true, recurses := true, named := ["riparian/prog.calculations", "internal/bytealg.MaxLen"], loops := true, plainKeys := false, apart := false, laid := [("riparian/prog.calculations", laid_riparian_prog_calculations)] }
def ProgJoinsSaid : Prop := progJoinsRow.holds Tryz.pinned (OpenSpec.ofChange progJoinsSpec)

/-- ITS FALSE NEIGHBOUR: 'it returns false'. Refute it at one input. -/
def progJoinsWrong : ChangeSpec := { name := "progJoins", fn := fun _ => fun
  | [d] => { results := [.lit (.bool false)], args := [d] }
  | _ => none }
def ProgJoinsWrongFalsely : Prop := progJoinsRow.holds Tryz.pinned (OpenSpec.ofChange progJoinsWrong)

/-- 'riparianlaw04.ProgForms': WHATEVER THE INPUT: true; the input reads as it did. -/
def progFormsSpec : ChangeSpec := { name := "progForms", fn := fun _ => fun
  | [d1, d2, d3, d4] => { results := [.lit (.bool true)], args := [d1, d2, d3, d4] }
  | _ => none }
def progFormsRow : OpenClaim := { program := "ytndcajdameofjaagreatdoor", sum := "ba8f12e70a4434b1e329de4dce2055db5b4d6ff23aea0100ab591e5da5f937d8", func := "riparian/riparianlaw04.ProgForms", spec := "progForms", unfollowed := true, recurses := true, named := ["riparian/prog.calculations"], loops := true, plainKeys := false, apart := false, laid := [("riparian/prog.calculations", laid_riparian_prog_calculations)] }
def ProgFormsSaid : Prop := progFormsRow.holds Tryz.pinned (OpenSpec.ofChange progFormsSpec)

/-- ITS FALSE NEIGHBOUR: 'it returns false'. Refute it at one input. -/
def progFormsWrong : ChangeSpec := { name := "progForms", fn := fun _ => fun
  | [d1, d2, d3, d4] => { results := [.lit (.bool false)], args := [d1, d2, d3, d4] }
  | _ => none }
def ProgFormsWrongFalsely : Prop := progFormsRow.holds Tryz.pinned (OpenSpec.ofChange progFormsWrong)

/-- 'riparianlaw04.ProgOrders': WHATEVER THE INPUT: true; the input reads as it did. -/
def progOrdersSpec : ChangeSpec := { name := "progOrders", fn := fun _ => fun
  | [d1, d2, d3] => { results := [.lit (.bool true)], args := [d1, d2, d3] }
  | _ => none }
def progOrdersRow : OpenClaim := { program := "ytndcajdameofjaagreatdoor", sum := "ba8f12e70a4434b1e329de4dce2055db5b4d6ff23aea0100ab591e5da5f937d8", func := "riparian/riparianlaw04.ProgOrders", spec := "progOrders", unfollowed := true, recurses := true, named := ["riparian/prog.calculations"], loops := true, plainKeys := false, apart := false, laid := [("riparian/prog.calculations", laid_riparian_prog_calculations)] }
def ProgOrdersSaid : Prop := progOrdersRow.holds Tryz.pinned (OpenSpec.ofChange progOrdersSpec)

/-- ITS FALSE NEIGHBOUR: 'it returns false'. Refute it at one input. -/
def progOrdersWrong : ChangeSpec := { name := "progOrders", fn := fun _ => fun
  | [d1, d2, d3] => { results := [.lit (.bool false)], args := [d1, d2, d3] }
  | _ => none }
def ProgOrdersWrongFalsely : Prop := progOrdersRow.holds Tryz.pinned (OpenSpec.ofChange progOrdersWrong)

/-- 'riparianlaw04.ProgJoined': WHATEVER THE INPUT: true; the input reads as it did. -/
def progJoinedSpec : ChangeSpec := { name := "progJoined", fn := fun _ => fun
  | [d] => { results := [.lit (.bool true)], args := [d] }
  | _ => none }
def progJoinedRow : OpenClaim := { program := "ytndcajdameofjaagreatdoor", sum := "ba8f12e70a4434b1e329de4dce2055db5b4d6ff23aea0100ab591e5da5f937d8", func := "riparian/riparianlaw04.ProgJoined", spec := "progJoined", inPlace := ["internal/bytealg.IndexByteString", "internal/bytealg.IndexString"], unfollowed := true, recurses := true, named := ["riparian/prog.calculations", "internal/bytealg.MaxLen"], loops := true, plainKeys := false, apart := false, laid := [("riparian/prog.calculations", laid_riparian_prog_calculations)] }
def ProgJoinedSaid : Prop := progJoinedRow.holds Tryz.pinned (OpenSpec.ofChange progJoinedSpec)

/-- ITS FALSE NEIGHBOUR: 'it returns false'. Refute it at one input. -/
def progJoinedWrong : ChangeSpec := { name := "progJoined", fn := fun _ => fun
  | [d] => { results := [.lit (.bool false)], args := [d] }
  | _ => none }
def ProgJoinedWrongFalsely : Prop := progJoinedRow.holds Tryz.pinned (OpenSpec.ofChange progJoinedWrong)

/- THE SECOND FORM. 'bulk': how many values and letters a reading holds, each counted each time it is reached (what is shared counts as often as it is met; a slice's spare places count too). A statement '..UptoSaid' is the law's where the arguments, and the package variables that the reading takes, are together of bulk at most 1048576: NARROWER than '..Said'. Prove '..Said' where nothing that the law and all that it calls make is longer than what came in: it says more and counts as full. Else prove '..UptoSaid'. A law counts once. -/
mutual
def uptoBulk {H : Type} : DataW H → Nat
  | .lit (.string bytes) => bytes.length + 1
  | .lit _ => 1
  | .nil => 1
  | .ptr d => uptoBulk d + 1
  | .slice elems spare => uptoBulkAll elems + uptoBulkAll spare + 1
  | .agg parts => uptoBulkAll parts + 1
  | .iface _ d => uptoBulk d + 1
  | .map entries => uptoBulkEntries entries + 1
  | .held _ => 1
def uptoBulkAll {H : Type} : List (DataW H) → Nat
  | [] => 0
  | d :: r => uptoBulk d + uptoBulkAll r
def uptoBulkEntries {H : Type} : List (Lit × DataW H) → Nat
  | [] => 0
  | x :: r => uptoBulkEntry x + uptoBulkEntries r
def uptoBulkEntry {H : Type} : Lit × DataW H → Nat
  | (.string bytes, d) => bytes.length + uptoBulk d + 1
  | (_, d) => uptoBulk d + 1
 end
def uptoSmall : (H : Type) → List (DataW H) → Bool := fun _ ds => decide (uptoBulkAll ds ≤ 1048576)
def OpenSpec.upto (s : _root_.Go.ChangeSpec) : _root_.Go.OpenSpec := { _root_.Go.OpenSpec.ofChange s with cond := some uptoSmall }

/-- 'riparianlaw04.ProgGoals', WHERE WHAT IT READS IS OF BULK AT MOST 1048576: true; the input reads as it did. -/
def progGoalsUptoRow : OpenClaim := { program := "ytndcajdameofjaagreatdoor", sum := "ba8f12e70a4434b1e329de4dce2055db5b4d6ff23aea0100ab591e5da5f937d8", func := "riparian/riparianlaw04.ProgGoals", spec := "progGoals", unfollowed := true, recurses := true, named := ["riparian/prog.calculations"], loops := true, plainKeys := false, apart := false, laid := [("riparian/prog.calculations", laid_riparian_prog_calculations)], narrowed := true }
def ProgGoalsUptoSaid : Prop := progGoalsUptoRow.holds Tryz.pinned (OpenSpec.upto progGoalsSpec)

/-- 'riparianlaw04.ProgWritten', WHERE WHAT IT READS IS OF BULK AT MOST 1048576: true; the input reads as it did. -/
def progWrittenUptoRow : OpenClaim := { program := "ytndcajdameofjaagreatdoor", sum := "ba8f12e70a4434b1e329de4dce2055db5b4d6ff23aea0100ab591e5da5f937d8", func := "riparian/riparianlaw04.ProgWritten", spec := "progWritten", unfollowed := true, recurses := true, named := ["riparian/prog.calculations"], loops := true, plainKeys := false, apart := false, laid := [("riparian/prog.calculations", laid_riparian_prog_calculations)], narrowed := true }
def ProgWrittenUptoSaid : Prop := progWrittenUptoRow.holds Tryz.pinned (OpenSpec.upto progWrittenSpec)

/-- 'riparianlaw04.ProgTerms', WHERE WHAT IT READS IS OF BULK AT MOST 1048576: true; the input reads as it did. -/
def progTermsUptoRow : OpenClaim := { program := "ytndcajdameofjaagreatdoor", sum := "ba8f12e70a4434b1e329de4dce2055db5b4d6ff23aea0100ab591e5da5f937d8", func := "riparian/riparianlaw04.ProgTerms", spec := "progTerms", unfollowed := true, recurses := true, named := ["riparian/prog.calculations"], loops := true, plainKeys := false, apart := false, laid := [("riparian/prog.calculations", laid_riparian_prog_calculations)], narrowed := true }
def ProgTermsUptoSaid : Prop := progTermsUptoRow.holds Tryz.pinned (OpenSpec.upto progTermsSpec)

/-- 'riparianlaw04.ProgKept', WHERE WHAT IT READS IS OF BULK AT MOST 1048576: true; the input reads as it did. -/
def progKeptUptoRow : OpenClaim := { program := "ytndcajdameofjaagreatdoor", sum := "ba8f12e70a4434b1e329de4dce2055db5b4d6ff23aea0100ab591e5da5f937d8", func := "riparian/riparianlaw04.ProgKept", spec := "progKept", unfollowed := true, recurses := true, named := ["riparian/prog.calculations"], loops := true, plainKeys := false, apart := false, laid := [("riparian/prog.calculations", laid_riparian_prog_calculations)], narrowed := true }
def ProgKeptUptoSaid : Prop := progKeptUptoRow.holds Tryz.pinned (OpenSpec.upto progKeptSpec)

/-- 'riparianlaw04.ProgChecks', WHERE WHAT IT READS IS OF BULK AT MOST 1048576: true; the input reads as it did. -/
def progChecksUptoRow : OpenClaim := { program := "ytndcajdameofjaagreatdoor", sum := "ba8f12e70a4434b1e329de4dce2055db5b4d6ff23aea0100ab591e5da5f937d8", func := "riparian/riparianlaw04.ProgChecks", spec := "progChecks", unfollowed := true, recurses := true, named := ["riparian/prog.calculations"], loops := true, plainKeys := false, apart := false, laid := [("riparian/prog.calculations", laid_riparian_prog_calculations)], narrowed := true }
def ProgChecksUptoSaid : Prop := progChecksUptoRow.holds Tryz.pinned (OpenSpec.upto progChecksSpec)

/-- 'riparianlaw04.ProgFresh', WHERE WHAT IT READS IS OF BULK AT MOST 1048576: true; the input reads as it did. -/
def progFreshUptoRow : OpenClaim := { program := "ytndcajdameofjaagreatdoor", sum := "ba8f12e70a4434b1e329de4dce2055db5b4d6ff23aea0100ab591e5da5f937d8", func := "riparian/riparianlaw04.ProgFresh", spec := "progFresh", unfollowed := true, recurses := true, named := ["riparian/prog.calculations"], loops := true, plainKeys := false, apart := false, laid := [("riparian/prog.calculations", laid_riparian_prog_calculations)], narrowed := true }
def ProgFreshUptoSaid : Prop := progFreshUptoRow.holds Tryz.pinned (OpenSpec.upto progFreshSpec)

/-- 'riparianlaw04.ProgComponents', WHERE WHAT IT READS IS OF BULK AT MOST 1048576: true; the input reads as it did. -/
def progComponentsUptoRow : OpenClaim := { program := "ytndcajdameofjaagreatdoor", sum := "ba8f12e70a4434b1e329de4dce2055db5b4d6ff23aea0100ab591e5da5f937d8", func := "riparian/riparianlaw04.ProgComponents", spec := "progComponents", unfollowed := true, recurses := true, named := ["riparian/prog.calculations"], loops := true, plainKeys := false, apart := false, laid := [("riparian/prog.calculations", laid_riparian_prog_calculations)], narrowed := true }
def ProgComponentsUptoSaid : Prop := progComponentsUptoRow.holds Tryz.pinned (OpenSpec.upto progComponentsSpec)

/-- 'riparianlaw04.ProgCalls', WHERE WHAT IT READS IS OF BULK AT MOST 1048576: true; the input reads as it did. -/
def progCallsUptoRow : OpenClaim := { program := "ytndcajdameofjaagreatdoor", sum := "ba8f12e70a4434b1e329de4dce2055db5b4d6ff23aea0100ab591e5da5f937d8", func := "riparian/riparianlaw04.ProgCalls", spec := "progCalls", unfollowed := true, recurses := true, named := ["riparian/prog.calculations"], loops := true, plainKeys := false, apart := false, laid := [("riparian/prog.calculations", laid_riparian_prog_calculations)], narrowed := true }
def ProgCallsUptoSaid : Prop := progCallsUptoRow.holds Tryz.pinned (OpenSpec.upto progCallsSpec)

/-- 'riparianlaw04.ProgTrims', WHERE WHAT IT READS IS OF BULK AT MOST 1048576: true; the input reads as it did. -/
def progTrimsUptoRow : OpenClaim := { program := "ytndcajdameofjaagreatdoor", sum := "ba8f12e70a4434b1e329de4dce2055db5b4d6ff23aea0100ab591e5da5f937d8", func := "riparian/riparianlaw04.ProgTrims", spec := "progTrims", unfollowed := true, recurses := true, named := ["riparian/prog.calculations"], loops := true, plainKeys := false, apart := false, laid := [("riparian/prog.calculations", laid_riparian_prog_calculations)], narrowed := true }
def ProgTrimsUptoSaid : Prop := progTrimsUptoRow.holds Tryz.pinned (OpenSpec.upto progTrimsSpec)

/-- 'riparianlaw04.ProgJoins', WHERE WHAT IT READS IS OF BULK AT MOST 1048576: true; the input reads as it did. -/
def progJoinsUptoRow : OpenClaim := { program := "ytndcajdameofjaagreatdoor", sum := "ba8f12e70a4434b1e329de4dce2055db5b4d6ff23aea0100ab591e5da5f937d8", func := "riparian/riparianlaw04.ProgJoins", spec := "progJoins", inPlace := ["internal/bytealg.IndexByteString", "internal/bytealg.IndexString"], unfollowed := true, recurses := true, named := ["riparian/prog.calculations", "internal/bytealg.MaxLen"], loops := true, plainKeys := false, apart := false, laid := [("riparian/prog.calculations", laid_riparian_prog_calculations)], narrowed := true }
def ProgJoinsUptoSaid : Prop := progJoinsUptoRow.holds Tryz.pinned (OpenSpec.upto progJoinsSpec)

/-- 'riparianlaw04.ProgForms', WHERE WHAT IT READS IS OF BULK AT MOST 1048576: true; the input reads as it did. -/
def progFormsUptoRow : OpenClaim := { program := "ytndcajdameofjaagreatdoor", sum := "ba8f12e70a4434b1e329de4dce2055db5b4d6ff23aea0100ab591e5da5f937d8", func := "riparian/riparianlaw04.ProgForms", spec := "progForms", unfollowed := true, recurses := true, named := ["riparian/prog.calculations"], loops := true, plainKeys := false, apart := false, laid := [("riparian/prog.calculations", laid_riparian_prog_calculations)], narrowed := true }
def ProgFormsUptoSaid : Prop := progFormsUptoRow.holds Tryz.pinned (OpenSpec.upto progFormsSpec)

/-- 'riparianlaw04.ProgOrders', WHERE WHAT IT READS IS OF BULK AT MOST 1048576: true; the input reads as it did. -/
def progOrdersUptoRow : OpenClaim := { program := "ytndcajdameofjaagreatdoor", sum := "ba8f12e70a4434b1e329de4dce2055db5b4d6ff23aea0100ab591e5da5f937d8", func := "riparian/riparianlaw04.ProgOrders", spec := "progOrders", unfollowed := true, recurses := true, named := ["riparian/prog.calculations"], loops := true, plainKeys := false, apart := false, laid := [("riparian/prog.calculations", laid_riparian_prog_calculations)], narrowed := true }
def ProgOrdersUptoSaid : Prop := progOrdersUptoRow.holds Tryz.pinned (OpenSpec.upto progOrdersSpec)

/-- 'riparianlaw04.ProgJoined', WHERE WHAT IT READS IS OF BULK AT MOST 1048576: true; the input reads as it did. -/
def progJoinedUptoRow : OpenClaim := { program := "ytndcajdameofjaagreatdoor", sum := "ba8f12e70a4434b1e329de4dce2055db5b4d6ff23aea0100ab591e5da5f937d8", func := "riparian/riparianlaw04.ProgJoined", spec := "progJoined", inPlace := ["internal/bytealg.IndexByteString", "internal/bytealg.IndexString"], unfollowed := true, recurses := true, named := ["riparian/prog.calculations", "internal/bytealg.MaxLen"], loops := true, plainKeys := false, apart := false, laid := [("riparian/prog.calculations", laid_riparian_prog_calculations)], narrowed := true }
def ProgJoinedUptoSaid : Prop := progJoinedUptoRow.holds Tryz.pinned (OpenSpec.upto progJoinedSpec)

end Rows
end Go.Proofs.YtndcajdameofjaaGreatDoor
