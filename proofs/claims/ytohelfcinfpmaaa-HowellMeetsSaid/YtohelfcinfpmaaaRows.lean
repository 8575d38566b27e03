/-
  No cell of these rows narrows 'for every input' (looked for: loops, veiled, ifaces, maps, wideKeys, modest, calm, conditions, laid).
  DERIVED. THE GIVEN ROWS OF THIS SEAT. 6 by the template 'for every input the law returns true; each argument reads behind the call as it read before'; 0 by the template 'total and deterministic' (their statements: YtohelfcinfpmaaaTotals.lean).
  GIVEN WITH THE SEED: the statements are not yours to turn. If you find one false, say at which input.
  Laid BY PROGRAM, IN A SANDBOX (cutbox-rows.mjs): the forced cells as the released guide's own fill.sh prints them over the translation 789806e1bf7e4cb7… (all of the seat's roots in one cut). By AI agents, Wed Nov 11 2026. No macro, syntax, notation, axiom, sorry.
-/
import Derived.Test.YtohelfcinfpmaaaChecked
import GoSem.Claim
import GoSem.ClaimJoined
import GoSem.ClaimMapViews
import Derived.JoinedTies
import Derived.KernelRfl
namespace Go.Proofs.Ytohelfcinfpmaaa
/- THE CELL 'sum', in the pinned program and in every row, IS THE sha256 OF THE DUMP (.gsa) THAT YtohelfcinfpmaaaProg.lean LOADS. Nothing in Lean hashes anything: it is a label: what it is worth is what the hold of that sum in a sandbox is worth. -/
noncomputable def Try.pinned : Pinned := { name := "ytohelfcinfpmaaa", sum := "789806e1bf7e4cb7a47505834cefc7cff624606025501096ffc572049f934b04", checked := Try.checked }
namespace Rows
def none {H : Type} : Left H := { results := [], args := [] }

/-- 'finesselaw26.HowellTells': WHATEVER THE INPUT: true; the input reads as it did. -/
def howellTellsSpec : ChangeSpec := { name := "howellTells", fn := fun _ => fun
  | [d1, d2, d3] => { results := [.lit (.bool true)], args := [d1, d2, d3] }
  | _ => none }
def howellTellsRow : OpenClaim := { program := "ytohelfcinfpmaaa", sum := "789806e1bf7e4cb7a47505834cefc7cff624606025501096ffc572049f934b04", func := "finesse/finesselaw26.HowellTells", spec := "howellTells", unfollowed := true, recurses := true, plainKeys := false, apart := false }
def HowellTellsSaid : Prop := howellTellsRow.holds Try.pinned (OpenSpec.ofChange howellTellsSpec)

/-- ITS FALSE NEIGHBOUR: 'it returns false'. Refute it at one input. -/
def howellTellsWrong : ChangeSpec := { name := "howellTells", fn := fun _ => fun
  | [d1, d2, d3] => { results := [.lit (.bool false)], args := [d1, d2, d3] }
  | _ => none }
def HowellTellsWrongFalsely : Prop := howellTellsRow.holds Try.pinned (OpenSpec.ofChange howellTellsWrong)

/-- 'finesselaw26.HowellMeets': WHATEVER THE INPUT: true; the input reads as it did. -/
def howellMeetsSpec : ChangeSpec := { name := "howellMeets", fn := fun _ => fun
  | [d1, d2] => { results := [.lit (.bool true)], args := [d1, d2] }
  | _ => none }
def howellMeetsRow : OpenClaim := { program := "ytohelfcinfpmaaa", sum := "789806e1bf7e4cb7a47505834cefc7cff624606025501096ffc572049f934b04", func := "finesse/finesselaw26.HowellMeets", spec := "howellMeets", unfollowed := true, recurses := true, plainKeys := false, apart := false }
def HowellMeetsSaid : Prop := howellMeetsRow.holds Try.pinned (OpenSpec.ofChange howellMeetsSpec)

/-- ITS FALSE NEIGHBOUR: 'it returns false'. Refute it at one input. -/
def howellMeetsWrong : ChangeSpec := { name := "howellMeets", fn := fun _ => fun
  | [d1, d2] => { results := [.lit (.bool false)], args := [d1, d2] }
  | _ => none }
def HowellMeetsWrongFalsely : Prop := howellMeetsRow.holds Try.pinned (OpenSpec.ofChange howellMeetsWrong)

/-- 'finesselaw26.HowellStrong': WHATEVER THE INPUT: true; the input reads as it did. -/
def howellStrongSpec : ChangeSpec := { name := "howellStrong", fn := fun _ => fun
  | [d1, d2] => { results := [.lit (.bool true)], args := [d1, d2] }
  | _ => none }
def howellStrongRow : OpenClaim := { program := "ytohelfcinfpmaaa", sum := "789806e1bf7e4cb7a47505834cefc7cff624606025501096ffc572049f934b04", func := "finesse/finesselaw26.HowellStrong", spec := "howellStrong", unfollowed := true, recurses := true, plainKeys := false, apart := false }
def HowellStrongSaid : Prop := howellStrongRow.holds Try.pinned (OpenSpec.ofChange howellStrongSpec)

/-- ITS FALSE NEIGHBOUR: 'it returns false'. Refute it at one input. -/
def howellStrongWrong : ChangeSpec := { name := "howellStrong", fn := fun _ => fun
  | [d1, d2] => { results := [.lit (.bool false)], args := [d1, d2] }
  | _ => none }
def HowellStrongWrongFalsely : Prop := howellStrongRow.holds Try.pinned (OpenSpec.ofChange howellStrongWrong)

/-- 'finesselaw26.HowellRoot': WHATEVER THE INPUT: true; the input reads as it did. -/
def howellRootSpec : ChangeSpec := { name := "howellRoot", fn := fun _ => fun
  | [d1, d2] => { results := [.lit (.bool true)], args := [d1, d2] }
  | _ => none }
def howellRootRow : OpenClaim := { program := "ytohelfcinfpmaaa", sum := "789806e1bf7e4cb7a47505834cefc7cff624606025501096ffc572049f934b04", func := "finesse/finesselaw26.HowellRoot", spec := "howellRoot", unfollowed := true, recurses := true, plainKeys := false, apart := false }
def HowellRootSaid : Prop := howellRootRow.holds Try.pinned (OpenSpec.ofChange howellRootSpec)

/-- ITS FALSE NEIGHBOUR: 'it returns false'. Refute it at one input. -/
def howellRootWrong : ChangeSpec := { name := "howellRoot", fn := fun _ => fun
  | [d1, d2] => { results := [.lit (.bool false)], args := [d1, d2] }
  | _ => none }
def HowellRootWrongFalsely : Prop := howellRootRow.holds Try.pinned (OpenSpec.ofChange howellRootWrong)

/-- 'finesselaw26.HowellSmall': WHATEVER THE INPUT: true; the input reads as it did. -/
def howellSmallSpec : ChangeSpec := { name := "howellSmall", fn := fun _ => fun
  | [] => { results := [.lit (.bool true)], args := [] }
  | _ => none }
def howellSmallRow : OpenClaim := { program := "ytohelfcinfpmaaa", sum := "789806e1bf7e4cb7a47505834cefc7cff624606025501096ffc572049f934b04", func := "finesse/finesselaw26.HowellSmall", spec := "howellSmall", unfollowed := true, recurses := true, plainKeys := false, apart := false }
def HowellSmallSaid : Prop := howellSmallRow.holds Try.pinned (OpenSpec.ofChange howellSmallSpec)

/-- ITS FALSE NEIGHBOUR: 'it returns false'. Refute it at one input. -/
def howellSmallWrong : ChangeSpec := { name := "howellSmall", fn := fun _ => fun
  | [] => { results := [.lit (.bool false)], args := [] }
  | _ => none }
def HowellSmallWrongFalsely : Prop := howellSmallRow.holds Try.pinned (OpenSpec.ofChange howellSmallWrong)

/-- 'finesselaw26.HowellWrong': WHATEVER THE INPUT: true; the input reads as it did. -/
def howellWrongSpec : ChangeSpec := { name := "howellWrong", fn := fun _ => fun
  | [d1, d2, d3] => { results := [.lit (.bool true)], args := [d1, d2, d3] }
  | _ => none }
def howellWrongRow : OpenClaim := { program := "ytohelfcinfpmaaa", sum := "789806e1bf7e4cb7a47505834cefc7cff624606025501096ffc572049f934b04", func := "finesse/finesselaw26.HowellWrong", spec := "howellWrong", unfollowed := true, recurses := true, plainKeys := false, apart := false }
def HowellWrongSaid : Prop := howellWrongRow.holds Try.pinned (OpenSpec.ofChange howellWrongSpec)

/-- ITS FALSE NEIGHBOUR: 'it returns false'. Refute it at one input. -/
def howellWrongWrong : ChangeSpec := { name := "howellWrong", fn := fun _ => fun
  | [d1, d2, d3] => { results := [.lit (.bool false)], args := [d1, d2, d3] }
  | _ => none }
def HowellWrongWrongFalsely : Prop := howellWrongRow.holds Try.pinned (OpenSpec.ofChange howellWrongWrong)

/- THE SECOND FORM. 'bulk': how many values and letters a reading holds, each counted each time it is reached (what is shared counts as often as it is met; a slice's spare places count too). A statement '..UptoSaid' is the law's where the arguments, and the package variables that the reading takes, are together of bulk at most 1048576: NARROWER than '..Said'. Prove '..Said' where nothing that the law and all that it calls make is longer than what came in: it says more and counts as full. Else prove '..UptoSaid'. A law counts once. -/
mutual
def uptoBulk {H : Type} : DataW H → Nat
  | .lit (.string bytes) => bytes.length + 1
  | .lit _ => 1
  | .nil => 1
  | .ptr d => uptoBulk d + 1
  | .slice elems spare => uptoBulkAll elems + uptoBulkAll spare + 1
  | .agg parts => uptoBulkAll parts + 1
  | .iface _ d => uptoBulk d + 1
  | .map entries => uptoBulkEntries entries + 1
  | .held _ => 1
def uptoBulkAll {H : Type} : List (DataW H) → Nat
  | [] => 0
  | d :: r => uptoBulk d + uptoBulkAll r
def uptoBulkEntries {H : Type} : List (Lit × DataW H) → Nat
  | [] => 0
  | x :: r => uptoBulkEntry x + uptoBulkEntries r
def uptoBulkEntry {H : Type} : Lit × DataW H → Nat
  | (.string bytes, d) => bytes.length + uptoBulk d + 1
  | (_, d) => uptoBulk d + 1
 end
def uptoSmall : (H : Type) → List (DataW H) → Bool := fun _ ds => decide (uptoBulkAll ds ≤ 1048576)
def OpenSpec.upto (s : _root_.Go.ChangeSpec) : _root_.Go.OpenSpec := { _root_.Go.OpenSpec.ofChange s with cond := some uptoSmall }

/-- 'finesselaw26.HowellTells', WHERE WHAT IT READS IS OF BULK AT MOST 1048576: true; the input reads as it did. -/
def howellTellsUptoRow : OpenClaim := { program := "ytohelfcinfpmaaa", sum := "789806e1bf7e4cb7a47505834cefc7cff624606025501096ffc572049f934b04", func := "finesse/finesselaw26.HowellTells", spec := "howellTells", unfollowed := true, recurses := true, plainKeys := false, apart := false, narrowed := true }
def HowellTellsUptoSaid : Prop := howellTellsUptoRow.holds Try.pinned (OpenSpec.upto howellTellsSpec)

/-- 'finesselaw26.HowellMeets', WHERE WHAT IT READS IS OF BULK AT MOST 1048576: true; the input reads as it did. -/
def howellMeetsUptoRow : OpenClaim := { program := "ytohelfcinfpmaaa", sum := "789806e1bf7e4cb7a47505834cefc7cff624606025501096ffc572049f934b04", func := "finesse/finesselaw26.HowellMeets", spec := "howellMeets", unfollowed := true, recurses := true, plainKeys := false, apart := false, narrowed := true }
def HowellMeetsUptoSaid : Prop := howellMeetsUptoRow.holds Try.pinned (OpenSpec.upto howellMeetsSpec)

/-- 'finesselaw26.HowellStrong', WHERE WHAT IT READS IS OF BULK AT MOST 1048576: true; the input reads as it did. -/
def howellStrongUptoRow : OpenClaim := { program := "ytohelfcinfpmaaa", sum := "789806e1bf7e4cb7a47505834cefc7cff624606025501096ffc572049f934b04", func := "finesse/finesselaw26.HowellStrong", spec := "howellStrong", unfollowed := true, recurses := true, plainKeys := false, apart := false, narrowed := true }
def HowellStrongUptoSaid : Prop := howellStrongUptoRow.holds Try.pinned (OpenSpec.upto howellStrongSpec)

/-- 'finesselaw26.HowellRoot', WHERE WHAT IT READS IS OF BULK AT MOST 1048576: true; the input reads as it did. -/
def howellRootUptoRow : OpenClaim := { program := "ytohelfcinfpmaaa", sum := "789806e1bf7e4cb7a47505834cefc7cff624606025501096ffc572049f934b04", func := "finesse/finesselaw26.HowellRoot", spec := "howellRoot", unfollowed := true, recurses := true, plainKeys := false, apart := false, narrowed := true }
def HowellRootUptoSaid : Prop := howellRootUptoRow.holds Try.pinned (OpenSpec.upto howellRootSpec)

/-- 'finesselaw26.HowellSmall', WHERE WHAT IT READS IS OF BULK AT MOST 1048576: true; the input reads as it did. -/
def howellSmallUptoRow : OpenClaim := { program := "ytohelfcinfpmaaa", sum := "789806e1bf7e4cb7a47505834cefc7cff624606025501096ffc572049f934b04", func := "finesse/finesselaw26.HowellSmall", spec := "howellSmall", unfollowed := true, recurses := true, plainKeys := false, apart := false, narrowed := true }
def HowellSmallUptoSaid : Prop := howellSmallUptoRow.holds Try.pinned (OpenSpec.upto howellSmallSpec)

/-- 'finesselaw26.HowellWrong', WHERE WHAT IT READS IS OF BULK AT MOST 1048576: true; the input reads as it did. -/
def howellWrongUptoRow : OpenClaim := { program := "ytohelfcinfpmaaa", sum := "789806e1bf7e4cb7a47505834cefc7cff624606025501096ffc572049f934b04", func := "finesse/finesselaw26.HowellWrong", spec := "howellWrong", unfollowed := true, recurses := true, plainKeys := false, apart := false, narrowed := true }
def HowellWrongUptoSaid : Prop := howellWrongUptoRow.holds Try.pinned (OpenSpec.upto howellWrongSpec)

end Rows
end Go.Proofs.Ytohelfcinfpmaaa
