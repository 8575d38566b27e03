/- What the laws' ends have in common. -/
import Derived.Test.YtmncmboeddlcmaaDoorC19U
import Derived.Test.YtmncmboeddlcmaaDoorCards
import Derived.Test.YtmncmboeddlcmaaDoorTie
import Derived.WalkKit
import Derived.ProofKit
import Derived.OpenShut
import Derived.Deep.DeepHandedRow
import Derived.Lib.LaidTab
namespace Go.Proofs.YtmncmboeddlcmaaDoor
open Go Go.Sx Go.ChangeShapes Go.WideShapes Go.RowKit Go.ChangeAt Go.Proofs.C19

theorem own : ownKnob Tryd.prog.godebug = none := by kernel_rfl
theorem gTab : Tryd.prog.globalNamed "finesse/imp.scale" = some 0 := by kernel_rfl

/-- what is laid: the scale -/
theorem table {W : World} (h : laidMetH Tryd.prog Rows.impTellsRow.laid W) : Lib.TabIs Tryd.prog W "finesse/imp.scale" .i64 scaleL :=
  Lib.tabIs_of_head (rest := []) gTab (t := 49) (by kernel_rfl) Tryd.underlying49 Tryd.underlying3 (by kernel_rfl) (by kernel_rfl) h

theorem globals {W : World} (h : laidMetH Tryd.prog Rows.impTellsRow.laid W) : ∀ us η h o, (∀ k, k < GH.length → η k = (fun k : Nat => if k = 0 then some (⟨0, 24, 1, 0⟩ : Info) else none) k) → GH[h]? = some o → o ≠ .free ∧ (o.isRo = true ∨ o = .dead) ∧ ∃ i, (fun k : Nat => if k = 0 then some (⟨0, 24, 1, 0⟩ : Info) else none) h = some i ∧ o.den Tryd.prog I19 us η i W.heap[i.blk]? := by
  intro us η k o _ hk
  cases k with
  | succ k => simp [GH] at hk
  | zero =>
    simp only [GH, List.getElem?_cons_zero, Option.some.injEq] at hk
    subst hk
    exact ⟨(by intro e; cases e), .inl rfl, _, rfl, tab_den (table h) gTab (by decide)⟩

/-- A WORLD FOR THE WITNESS: the settled one, the scale (block 0) holding what its initialiser lays. -/
noncomputable def laidWorld (os : Os) : World :=
  { World.holding Tryd.prog os ⟨#[], #[], []⟩ with heap := (World.holding Tryd.prog os ⟨#[], #[], []⟩).heap.modify 0 fun
      | .cells _ t frozen => .cells (scaleL.map fun n => Value.int .i64 n).toArray t frozen
      | o => o }

theorem el_of {u : U} (h : ∀ r ∈ u.l, RowIn [.int .u32] r) : (u.l.all fun r => r.all fun x => decide ((0 : Int) ≤ x) && decide (x ≤ 4294967295)) = true := by
  rw [List.all_eq_true]
  intro r hr
  obtain ⟨h1, h2⟩ := h r hr
  rcases r with _ | ⟨x, _ | ⟨y, r⟩⟩
  · rfl
  · have := h2 0 (.int .u32) rfl
    have a : (0 : Int) ≤ x := this.1
    have b : x ≤ (4294967295 : Int) := this.2
    simp [a, b]
  · simp at h1

end Go.Proofs.YtmncmboeddlcmaaDoor
