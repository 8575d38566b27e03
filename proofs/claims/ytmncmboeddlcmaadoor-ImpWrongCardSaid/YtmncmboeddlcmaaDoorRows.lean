/-
  NARROWER THAN 'FOR EVERY INPUT', by the rows' own cells (each row's printed sentence says how): ImpTells: laid · ImpMatches: laid · ImpSmall: laid · ImpTwo: laid · ImpLeast: laid · ImpTeams: laid · ImpParts: laid · ImpWrong: laid.
  DERIVED. THE GIVEN ROWS OF THIS SEAT. 8 by the template 'for every input the law returns true; each argument reads behind the call as it read before'; 0 by the template 'total and deterministic' (their statements: YtmncmboeddlcmaaDoorTotals.lean).
  GIVEN WITH THE SEED: the statements are not yours to turn. If you find one false, say at which input.
  Laid BY PROGRAM, IN A SANDBOX (cutbox-rows.mjs): the forced cells as the released guide's own fill.sh prints them over the translation da55e6e7ed216bd6… (all of the seat's roots in one cut). By AI agents, Wed Nov 11 2026. No macro, syntax, notation, axiom, sorry.
-/
import Derived.Test.YtmncmboeddlcmaaDoorChecked
import GoSem.Claim
import GoSem.ClaimJoined
import GoSem.ClaimMapViews
import Derived.JoinedTies
import Derived.KernelRfl
namespace Go.Proofs.YtmncmboeddlcmaaDoor
/- THE CELL 'sum', in the pinned program and in every row, IS THE sha256 OF THE DUMP (.gsa) THAT YtmncmboeddlcmaaDoorProg.lean LOADS. Nothing in Lean hashes anything: it is a label: what it is worth is what the hold of that sum in a sandbox is worth. -/
noncomputable def Tryd.pinned : Pinned := { name := "ytmncmboeddlcmaadoor", sum := "da55e6e7ed216bd6acfb387adbaa17e7f815f9d186fa3eb5346c80d238d91d58", checked := Tryd.checked }
namespace Rows
def none {H : Type} : Left H := { results := [], args := [] }

/- WHAT THE LISTED PACKAGE-LEVEL VARIABLES READ AS WHEN THE CALL BEGINS. Each datum BY PROGRAM (the guide's laid-datum.mjs) off the statement by which the dump's own 'gosem.cut.vars' lays the variable. In a bare row this is a premise. The card (YtmncmboeddlcmaaDoorCards.lean) ties it to the program's text. -/
def laid_finesse_imp_scale {H : Type} : DataW H := .agg [.lit (.int .i64 20), .lit (.int .i64 50), .lit (.int .i64 90), .lit (.int .i64 130), .lit (.int .i64 170), .lit (.int .i64 220), .lit (.int .i64 270), .lit (.int .i64 320), .lit (.int .i64 370), .lit (.int .i64 430), .lit (.int .i64 500), .lit (.int .i64 600), .lit (.int .i64 750), .lit (.int .i64 900), .lit (.int .i64 1100), .lit (.int .i64 1300), .lit (.int .i64 1500), .lit (.int .i64 1750), .lit (.int .i64 2000), .lit (.int .i64 2250), .lit (.int .i64 2500), .lit (.int .i64 3000), .lit (.int .i64 3500), .lit (.int .i64 4000)]

/-- 'finesselaw19.ImpTells': WHATEVER THE INPUT: true; the input reads as it did. -/
def impTellsSpec : ChangeSpec := { name := "impTells", fn := fun _ => fun
  | [d1, d2, d3, d4] => { results := [.lit (.bool true)], args := [d1, d2, d3, d4] }
  | _ => none }
def impTellsRow : OpenClaim := { program := "ytmncmboeddlcmaadoor", sum := "da55e6e7ed216bd6acfb387adbaa17e7f815f9d186fa3eb5346c80d238d91d58", func := "finesse/finesselaw19.ImpTells", spec := "impTells", unfollowed := true, recurses := true, named := ["finesse/imp.scale"], apart := false, laid := [("finesse/imp.scale", laid_finesse_imp_scale)] }
def ImpTellsSaid : Prop := impTellsRow.holds Tryd.pinned (OpenSpec.ofChange impTellsSpec)

/-- ITS FALSE NEIGHBOUR: 'it returns false'. Refute it at one input. -/
def impTellsWrong : ChangeSpec := { name := "impTells", fn := fun _ => fun
  | [d1, d2, d3, d4] => { results := [.lit (.bool false)], args := [d1, d2, d3, d4] }
  | _ => none }
def ImpTellsWrongFalsely : Prop := impTellsRow.holds Tryd.pinned (OpenSpec.ofChange impTellsWrong)

/-- 'finesselaw19.ImpMatches': WHATEVER THE INPUT: true; the input reads as it did. -/
def impMatchesSpec : ChangeSpec := { name := "impMatches", fn := fun _ => fun
  | [d] => { results := [.lit (.bool true)], args := [d] }
  | _ => none }
def impMatchesRow : OpenClaim := { program := "ytmncmboeddlcmaadoor", sum := "da55e6e7ed216bd6acfb387adbaa17e7f815f9d186fa3eb5346c80d238d91d58", func := "finesse/finesselaw19.ImpMatches", spec := "impMatches", unfollowed := true, recurses := true, named := ["finesse/imp.scale"], apart := false, laid := [("finesse/imp.scale", laid_finesse_imp_scale)] }
def ImpMatchesSaid : Prop := impMatchesRow.holds Tryd.pinned (OpenSpec.ofChange impMatchesSpec)

/-- ITS FALSE NEIGHBOUR: 'it returns false'. Refute it at one input. -/
def impMatchesWrong : ChangeSpec := { name := "impMatches", fn := fun _ => fun
  | [d] => { results := [.lit (.bool false)], args := [d] }
  | _ => none }
def ImpMatchesWrongFalsely : Prop := impMatchesRow.holds Tryd.pinned (OpenSpec.ofChange impMatchesWrong)

/-- 'finesselaw19.ImpSmall': WHATEVER THE INPUT: true; the input reads as it did. -/
def impSmallSpec : ChangeSpec := { name := "impSmall", fn := fun _ => fun
  | [] => { results := [.lit (.bool true)], args := [] }
  | _ => none }
def impSmallRow : OpenClaim := { program := "ytmncmboeddlcmaadoor", sum := "da55e6e7ed216bd6acfb387adbaa17e7f815f9d186fa3eb5346c80d238d91d58", func := "finesse/finesselaw19.ImpSmall", spec := "impSmall", unfollowed := true, recurses := true, named := ["finesse/imp.scale"], apart := false, laid := [("finesse/imp.scale", laid_finesse_imp_scale)] }
def ImpSmallSaid : Prop := impSmallRow.holds Tryd.pinned (OpenSpec.ofChange impSmallSpec)

/-- ITS FALSE NEIGHBOUR: 'it returns false'. Refute it at one input. -/
def impSmallWrong : ChangeSpec := { name := "impSmall", fn := fun _ => fun
  | [] => { results := [.lit (.bool false)], args := [] }
  | _ => none }
def ImpSmallWrongFalsely : Prop := impSmallRow.holds Tryd.pinned (OpenSpec.ofChange impSmallWrong)

/-- 'finesselaw19.ImpTwo': WHATEVER THE INPUT: true; the input reads as it did. -/
def impTwoSpec : ChangeSpec := { name := "impTwo", fn := fun _ => fun
  | [d1, d2] => { results := [.lit (.bool true)], args := [d1, d2] }
  | _ => none }
def impTwoRow : OpenClaim := { program := "ytmncmboeddlcmaadoor", sum := "da55e6e7ed216bd6acfb387adbaa17e7f815f9d186fa3eb5346c80d238d91d58", func := "finesse/finesselaw19.ImpTwo", spec := "impTwo", unfollowed := true, recurses := true, named := ["finesse/imp.scale"], apart := false, laid := [("finesse/imp.scale", laid_finesse_imp_scale)] }
def ImpTwoSaid : Prop := impTwoRow.holds Tryd.pinned (OpenSpec.ofChange impTwoSpec)

/-- ITS FALSE NEIGHBOUR: 'it returns false'. Refute it at one input. -/
def impTwoWrong : ChangeSpec := { name := "impTwo", fn := fun _ => fun
  | [d1, d2] => { results := [.lit (.bool false)], args := [d1, d2] }
  | _ => none }
def ImpTwoWrongFalsely : Prop := impTwoRow.holds Tryd.pinned (OpenSpec.ofChange impTwoWrong)

/-- 'finesselaw19.ImpLeast': WHATEVER THE INPUT: true; the input reads as it did. -/
def impLeastSpec : ChangeSpec := { name := "impLeast", fn := fun _ => fun
  | [d1, d2] => { results := [.lit (.bool true)], args := [d1, d2] }
  | _ => none }
def impLeastRow : OpenClaim := { program := "ytmncmboeddlcmaadoor", sum := "da55e6e7ed216bd6acfb387adbaa17e7f815f9d186fa3eb5346c80d238d91d58", func := "finesse/finesselaw19.ImpLeast", spec := "impLeast", unfollowed := true, recurses := true, named := ["finesse/imp.scale"], apart := false, laid := [("finesse/imp.scale", laid_finesse_imp_scale)] }
def ImpLeastSaid : Prop := impLeastRow.holds Tryd.pinned (OpenSpec.ofChange impLeastSpec)

/-- ITS FALSE NEIGHBOUR: 'it returns false'. Refute it at one input. -/
def impLeastWrong : ChangeSpec := { name := "impLeast", fn := fun _ => fun
  | [d1, d2] => { results := [.lit (.bool false)], args := [d1, d2] }
  | _ => none }
def ImpLeastWrongFalsely : Prop := impLeastRow.holds Tryd.pinned (OpenSpec.ofChange impLeastWrong)

/-- 'finesselaw19.ImpTeams': WHATEVER THE INPUT: true; the input reads as it did. -/
def impTeamsSpec : ChangeSpec := { name := "impTeams", fn := fun _ => fun
  | [d] => { results := [.lit (.bool true)], args := [d] }
  | _ => none }
def impTeamsRow : OpenClaim := { program := "ytmncmboeddlcmaadoor", sum := "da55e6e7ed216bd6acfb387adbaa17e7f815f9d186fa3eb5346c80d238d91d58", func := "finesse/finesselaw19.ImpTeams", spec := "impTeams", unfollowed := true, recurses := true, named := ["finesse/imp.scale"], apart := false, laid := [("finesse/imp.scale", laid_finesse_imp_scale)] }
def ImpTeamsSaid : Prop := impTeamsRow.holds Tryd.pinned (OpenSpec.ofChange impTeamsSpec)

/-- ITS FALSE NEIGHBOUR: 'it returns false'. Refute it at one input. -/
def impTeamsWrong : ChangeSpec := { name := "impTeams", fn := fun _ => fun
  | [d] => { results := [.lit (.bool false)], args := [d] }
  | _ => none }
def ImpTeamsWrongFalsely : Prop := impTeamsRow.holds Tryd.pinned (OpenSpec.ofChange impTeamsWrong)

/-- 'finesselaw19.ImpParts': WHATEVER THE INPUT: true; the input reads as it did. -/
def impPartsSpec : ChangeSpec := { name := "impParts", fn := fun _ => fun
  | [d1, d2] => { results := [.lit (.bool true)], args := [d1, d2] }
  | _ => none }
def impPartsRow : OpenClaim := { program := "ytmncmboeddlcmaadoor", sum := "da55e6e7ed216bd6acfb387adbaa17e7f815f9d186fa3eb5346c80d238d91d58", func := "finesse/finesselaw19.ImpParts", spec := "impParts", unfollowed := true, recurses := true, named := ["finesse/imp.scale"], apart := false, laid := [("finesse/imp.scale", laid_finesse_imp_scale)] }
def ImpPartsSaid : Prop := impPartsRow.holds Tryd.pinned (OpenSpec.ofChange impPartsSpec)

/-- ITS FALSE NEIGHBOUR: 'it returns false'. Refute it at one input. -/
def impPartsWrong : ChangeSpec := { name := "impParts", fn := fun _ => fun
  | [d1, d2] => { results := [.lit (.bool false)], args := [d1, d2] }
  | _ => none }
def ImpPartsWrongFalsely : Prop := impPartsRow.holds Tryd.pinned (OpenSpec.ofChange impPartsWrong)

/-- 'finesselaw19.ImpWrong': WHATEVER THE INPUT: true; the input reads as it did. -/
def impWrongSpec : ChangeSpec := { name := "impWrong", fn := fun _ => fun
  | [d1, d2, d3, d4] => { results := [.lit (.bool true)], args := [d1, d2, d3, d4] }
  | _ => none }
def impWrongRow : OpenClaim := { program := "ytmncmboeddlcmaadoor", sum := "da55e6e7ed216bd6acfb387adbaa17e7f815f9d186fa3eb5346c80d238d91d58", func := "finesse/finesselaw19.ImpWrong", spec := "impWrong", unfollowed := true, recurses := true, named := ["finesse/imp.scale"], apart := false, laid := [("finesse/imp.scale", laid_finesse_imp_scale)] }
def ImpWrongSaid : Prop := impWrongRow.holds Tryd.pinned (OpenSpec.ofChange impWrongSpec)

/-- ITS FALSE NEIGHBOUR: 'it returns false'. Refute it at one input. -/
def impWrongWrong : ChangeSpec := { name := "impWrong", fn := fun _ => fun
  | [d1, d2, d3, d4] => { results := [.lit (.bool false)], args := [d1, d2, d3, d4] }
  | _ => none }
def ImpWrongWrongFalsely : Prop := impWrongRow.holds Tryd.pinned (OpenSpec.ofChange impWrongWrong)

/- THE SECOND FORM. 'bulk': how many values and letters a reading holds, each counted each time it is reached (what is shared counts as often as it is met; a slice's spare places count too). A statement '..UptoSaid' is the law's where the arguments, and the package variables that the reading takes, are together of bulk at most 1048576: NARROWER than '..Said'. Prove '..Said' where nothing that the law and all that it calls make is longer than what came in: it says more and counts as full. Else prove '..UptoSaid'. A law counts once. -/
mutual
def uptoBulk {H : Type} : DataW H → Nat
  | .lit (.string bytes) => bytes.length + 1
  | .lit _ => 1
  | .nil => 1
  | .ptr d => uptoBulk d + 1
  | .slice elems spare => uptoBulkAll elems + uptoBulkAll spare + 1
  | .agg parts => uptoBulkAll parts + 1
  | .iface _ d => uptoBulk d + 1
  | .map entries => uptoBulkEntries entries + 1
  | .held _ => 1
def uptoBulkAll {H : Type} : List (DataW H) → Nat
  | [] => 0
  | d :: r => uptoBulk d + uptoBulkAll r
def uptoBulkEntries {H : Type} : List (Lit × DataW H) → Nat
  | [] => 0
  | x :: r => uptoBulkEntry x + uptoBulkEntries r
def uptoBulkEntry {H : Type} : Lit × DataW H → Nat
  | (.string bytes, d) => bytes.length + uptoBulk d + 1
  | (_, d) => uptoBulk d + 1
 end
def uptoSmall : (H : Type) → List (DataW H) → Bool := fun _ ds => decide (uptoBulkAll ds ≤ 1048576)
def OpenSpec.upto (s : _root_.Go.ChangeSpec) : _root_.Go.OpenSpec := { _root_.Go.OpenSpec.ofChange s with cond := some uptoSmall }

/-- 'finesselaw19.ImpTells', WHERE WHAT IT READS IS OF BULK AT MOST 1048576: true; the input reads as it did. -/
def impTellsUptoRow : OpenClaim := { program := "ytmncmboeddlcmaadoor", sum := "da55e6e7ed216bd6acfb387adbaa17e7f815f9d186fa3eb5346c80d238d91d58", func := "finesse/finesselaw19.ImpTells", spec := "impTells", unfollowed := true, recurses := true, named := ["finesse/imp.scale"], apart := false, laid := [("finesse/imp.scale", laid_finesse_imp_scale)], narrowed := true }
def ImpTellsUptoSaid : Prop := impTellsUptoRow.holds Tryd.pinned (OpenSpec.upto impTellsSpec)

/-- 'finesselaw19.ImpMatches', WHERE WHAT IT READS IS OF BULK AT MOST 1048576: true; the input reads as it did. -/
def impMatchesUptoRow : OpenClaim := { program := "ytmncmboeddlcmaadoor", sum := "da55e6e7ed216bd6acfb387adbaa17e7f815f9d186fa3eb5346c80d238d91d58", func := "finesse/finesselaw19.ImpMatches", spec := "impMatches", unfollowed := true, recurses := true, named := ["finesse/imp.scale"], apart := false, laid := [("finesse/imp.scale", laid_finesse_imp_scale)], narrowed := true }
def ImpMatchesUptoSaid : Prop := impMatchesUptoRow.holds Tryd.pinned (OpenSpec.upto impMatchesSpec)

/-- 'finesselaw19.ImpSmall', WHERE WHAT IT READS IS OF BULK AT MOST 1048576: true; the input reads as it did. -/
def impSmallUptoRow : OpenClaim := { program := "ytmncmboeddlcmaadoor", sum := "da55e6e7ed216bd6acfb387adbaa17e7f815f9d186fa3eb5346c80d238d91d58", func := "finesse/finesselaw19.ImpSmall", spec := "impSmall", unfollowed := true, recurses := true, named := ["finesse/imp.scale"], apart := false, laid := [("finesse/imp.scale", laid_finesse_imp_scale)], narrowed := true }
def ImpSmallUptoSaid : Prop := impSmallUptoRow.holds Tryd.pinned (OpenSpec.upto impSmallSpec)

/-- 'finesselaw19.ImpTwo', WHERE WHAT IT READS IS OF BULK AT MOST 1048576: true; the input reads as it did. -/
def impTwoUptoRow : OpenClaim := { program := "ytmncmboeddlcmaadoor", sum := "da55e6e7ed216bd6acfb387adbaa17e7f815f9d186fa3eb5346c80d238d91d58", func := "finesse/finesselaw19.ImpTwo", spec := "impTwo", unfollowed := true, recurses := true, named := ["finesse/imp.scale"], apart := false, laid := [("finesse/imp.scale", laid_finesse_imp_scale)], narrowed := true }
def ImpTwoUptoSaid : Prop := impTwoUptoRow.holds Tryd.pinned (OpenSpec.upto impTwoSpec)

/-- 'finesselaw19.ImpLeast', WHERE WHAT IT READS IS OF BULK AT MOST 1048576: true; the input reads as it did. -/
def impLeastUptoRow : OpenClaim := { program := "ytmncmboeddlcmaadoor", sum := "da55e6e7ed216bd6acfb387adbaa17e7f815f9d186fa3eb5346c80d238d91d58", func := "finesse/finesselaw19.ImpLeast", spec := "impLeast", unfollowed := true, recurses := true, named := ["finesse/imp.scale"], apart := false, laid := [("finesse/imp.scale", laid_finesse_imp_scale)], narrowed := true }
def ImpLeastUptoSaid : Prop := impLeastUptoRow.holds Tryd.pinned (OpenSpec.upto impLeastSpec)

/-- 'finesselaw19.ImpTeams', WHERE WHAT IT READS IS OF BULK AT MOST 1048576: true; the input reads as it did. -/
def impTeamsUptoRow : OpenClaim := { program := "ytmncmboeddlcmaadoor", sum := "da55e6e7ed216bd6acfb387adbaa17e7f815f9d186fa3eb5346c80d238d91d58", func := "finesse/finesselaw19.ImpTeams", spec := "impTeams", unfollowed := true, recurses := true, named := ["finesse/imp.scale"], apart := false, laid := [("finesse/imp.scale", laid_finesse_imp_scale)], narrowed := true }
def ImpTeamsUptoSaid : Prop := impTeamsUptoRow.holds Tryd.pinned (OpenSpec.upto impTeamsSpec)

/-- 'finesselaw19.ImpParts', WHERE WHAT IT READS IS OF BULK AT MOST 1048576: true; the input reads as it did. -/
def impPartsUptoRow : OpenClaim := { program := "ytmncmboeddlcmaadoor", sum := "da55e6e7ed216bd6acfb387adbaa17e7f815f9d186fa3eb5346c80d238d91d58", func := "finesse/finesselaw19.ImpParts", spec := "impParts", unfollowed := true, recurses := true, named := ["finesse/imp.scale"], apart := false, laid := [("finesse/imp.scale", laid_finesse_imp_scale)], narrowed := true }
def ImpPartsUptoSaid : Prop := impPartsUptoRow.holds Tryd.pinned (OpenSpec.upto impPartsSpec)

/-- 'finesselaw19.ImpWrong', WHERE WHAT IT READS IS OF BULK AT MOST 1048576: true; the input reads as it did. -/
def impWrongUptoRow : OpenClaim := { program := "ytmncmboeddlcmaadoor", sum := "da55e6e7ed216bd6acfb387adbaa17e7f815f9d186fa3eb5346c80d238d91d58", func := "finesse/finesselaw19.ImpWrong", spec := "impWrong", unfollowed := true, recurses := true, named := ["finesse/imp.scale"], apart := false, laid := [("finesse/imp.scale", laid_finesse_imp_scale)], narrowed := true }
def ImpWrongUptoSaid : Prop := impWrongUptoRow.holds Tryd.pinned (OpenSpec.upto impWrongSpec)

end Rows
end Go.Proofs.YtmncmboeddlcmaaDoor
