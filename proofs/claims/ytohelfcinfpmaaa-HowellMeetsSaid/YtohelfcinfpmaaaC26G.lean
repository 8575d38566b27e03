/- What the laws' ends have in common. -/
import Derived.Test.YtohelfcinfpmaaaC26Z
import Derived.Test.YtohelfcinfpmaaaRows
import Derived.Test.YtohelfcinfpmaaaChecked
import Derived.WalkKit
import Derived.ProofKit
import Derived.OpenShut
import Derived.Deep.DeepHandedRow
import Derived.Lib.LaidTab
namespace Go.Proofs.Ytohelfcinfpmaaa
open Go Go.Sx Go.ChangeShapes Go.WideShapes Go.RowKit Go.ChangeAt Go.Proofs.C26

theorem own : ownKnob Try.prog.godebug = none := by kernel_rfl

theorem globals {W : World} (_ : laidMetH Try.prog Rows.howellTellsRow.laid W) : ∀ (us : List U) (η : Env) (h : Nat) (o : O), (∀ k, k < ([] : List O).length → η k = (fun _ : Nat => (none : Option Info)) k) → ([] : List O)[h]? = some o → o ≠ .free ∧ (o.isRo = true ∨ o = .dead) ∧ ∃ i, (fun _ : Nat => (none : Option Info)) h = some i ∧ o.den Try.prog I26 us η i W.heap[i.blk]? := by
  intro us η k o _ hk
  simp at hk

/-- A WORLD FOR THE WITNESS: the settled one. -/
noncomputable def laidWorld (os : Os) : World := World.holding Try.prog os ⟨#[], #[], []⟩

theorem mk_le {a b : Int} (h : a ≤ b) : decide (a ≤ b) = true := decide_eq_true h

end Go.Proofs.Ytohelfcinfpmaaa
