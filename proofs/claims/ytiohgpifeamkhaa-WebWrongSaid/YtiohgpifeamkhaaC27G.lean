/- What the laws' ends have in common. -/
import Derived.Test.YtiohgpifeamkhaaC27V
import Derived.Test.YtiohgpifeamkhaaRows
import Derived.Test.YtiohgpifeamkhaaChecked
import Derived.WalkKit
import Derived.ProofKit
import Derived.OpenShut
import Derived.Deep.DeepHandedRow
import Derived.Lib.LaidTab
namespace Go.Proofs.Ytiohgpifeamkhaa
open Go Go.Sx Go.ChangeShapes Go.WideShapes Go.RowKit Go.ChangeAt Go.Proofs.C27

/-- what is handed in, as a list -/
theorem hval_list {P : Program} {params : Array TypeId} {W : World} {base : Nat} {args : Array Value} (h : ∀ (j : Nat) t v, params[j]? = some t → args[j]? = some v → Value.okWide P W .any base t v) :
    ∀ (j : Nat) t v, params.toList[j]? = some t → args.toList[j]? = some v → ∃ r b0, Value.okWide P W r b0 t v :=
  fun j t v h1 h2 => ⟨_, _, h j t v (by simpa using h1) (by simpa using h2)⟩

theorem own : ownKnob Try.prog.godebug = none := by kernel_rfl

theorem globals {W : World} (_ : laidMetH Try.prog Rows.webMakesRow.laid W) : ∀ (us : List U) (η : Env) (h : Nat) (o : O), (∀ k, k < ([] : List O).length → η k = (fun _ : Nat => (none : Option Info)) k) → ([] : List O)[h]? = some o → o ≠ .free ∧ (o.isRo = true ∨ o = .dead) ∧ ∃ i, (fun _ : Nat => (none : Option Info)) h = some i ∧ o.den Try.prog I27 us η i W.heap[i.blk]? := by
  intro us η k o _ hk
  simp at hk

/-- A WORLD FOR THE WITNESS: the settled one. -/
noncomputable def laidWorld (os : Os) : World := World.holding Try.prog os ⟨#[], #[], []⟩

theorem mk_le {a b : Int} (h : a ≤ b) : decide (a ≤ b) = true := decide_eq_true h

end Go.Proofs.Ytiohgpifeamkhaa
