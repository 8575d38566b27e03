/- What the laws' ends have in common. -/
import Derived.Test.YtnpadkajapialaaDoorC24R
import Derived.Test.YtnpadkajapialaaDoorCards
import Derived.Test.YtnpadkajapialaaDoorTie
import Derived.WalkKit
import Derived.ProofKit
import Derived.OpenShut
import Derived.Deep.DeepHandedRow
import Derived.Lib.LaidTab
namespace Go.Proofs.YtnpadkajapialaaDoor
open Go Go.Sx Go.ChangeShapes Go.WideShapes Go.RowKit Go.ChangeAt Go.Proofs.C24

/-- what is handed in, as a list -/
theorem hval_list {P : Program} {params : Array TypeId} {W : World} {base : Nat} {args : Array Value} (h : ∀ (j : Nat) t v, params[j]? = some t → args[j]? = some v → Value.okWide P W .any base t v) :
    ∀ (j : Nat) t v, params.toList[j]? = some t → args.toList[j]? = some v → ∃ r b0, Value.okWide P W r b0 t v :=
  fun j t v h1 h2 => ⟨_, _, h j t v (by simpa using h1) (by simpa using h2)⟩

theorem tab_flat (k : IntKind) : ∀ zs : List Int, (zs.map fun n => [n]).flatMap (rowVals [.int k]) = zs.map fun z => Value.int k z
  | [] => rfl
  | z :: zs => by rw [List.map_cons, List.flatMap_cons, tab_flat k zs]; rfl
/-- a table of numbers, looked at as rows of one -/
theorem tab_den {P : Program} {W : World} {name : String} {k : IntKind} {zs : List Int} {g : Nat} (ht : Lib.TabIs P W name k zs) (hg : P.globalNamed name = some g) (hz : 0 < zs.length) {I : Itp} {us : List U} {η : Env} :
    (O.rows true [.int k] (rowsOf (zs.map fun n => rowOf [.lit n]))).den P I us η ⟨g, zs.length, 1, 0⟩ W.heap[g]? := by
  have hA : ((rowsOf (zs.map fun n => rowOf [.lit n])).den I us).l = zs.map fun n => [n] := by
    rw [rowsOf_l, List.map_map]
    rfl
  unfold Lib.TabIs World.var? at ht
  rw [hg, Option.bind_some] at ht
  split at ht
  · rename_i cs ty fz hh
    simp only [Option.some.injEq] at ht
    subst ht
    refine ⟨by simp, rfl, by rw [hA]; simp, fun h => by simp at h, .inr ⟨hz, _, ty, fz, hh, fun h => by simp at h, by rw [hA]; simp, by simp, fun h => by simp at h, ?_⟩⟩
    rw [hA]
    simp only [List.drop_zero, List.length_map, List.length_cons, List.length_nil, Nat.zero_add, Nat.mul_one]
    rw [List.take_of_length_le (by simp), tab_flat]
  · simp at ht

theorem own : ownKnob Tryd.prog.godebug = none := by kernel_rfl
theorem gTab : Tryd.prog.globalNamed "finesse/imp.scale" = some 0 := by kernel_rfl

/-- what is laid: the scale -/
theorem table {W : World} (h : laidMetH Tryd.prog Rows.crossTurnedRow.laid W) : Lib.TabIs Tryd.prog W "finesse/imp.scale" .i64 scaleL :=
  Lib.tabIs_of_head (rest := []) gTab (t := 74) (by kernel_rfl) Tryd.underlying74 Tryd.underlying3 (by kernel_rfl) (by kernel_rfl) h

theorem globals {W : World} (h : laidMetH Tryd.prog Rows.crossTurnedRow.laid W) : ∀ us η h o, (∀ k, k < GH.length → η k = (fun k : Nat => if k = 0 then some (⟨0, 24, 1, 0⟩ : Info) else none) k) → GH[h]? = some o → o ≠ .free ∧ (o.isRo = true ∨ o = .dead) ∧ ∃ i, (fun k : Nat => if k = 0 then some (⟨0, 24, 1, 0⟩ : Info) else none) h = some i ∧ o.den Tryd.prog I24 us η i W.heap[i.blk]? := by
  intro us η k o _ hk
  cases k with
  | succ k => simp [GH] at hk
  | zero =>
    simp only [GH, List.getElem?_cons_zero, Option.some.injEq] at hk
    subst hk
    exact ⟨(by intro e; cases e), .inl rfl, _, rfl, tab_den (table h) gTab (by decide)⟩

/-- A WORLD FOR THE WITNESS: the settled one, the scale (block 0) holding what its initialiser lays. -/
noncomputable def laidWorld (os : Os) : World :=
  { World.holding Tryd.prog os ⟨#[], #[], []⟩ with heap := (World.holding Tryd.prog os ⟨#[], #[], []⟩).heap.modify 0 fun
      | .cells _ t frozen => .cells (scaleL.map fun n => Value.int .i64 n).toArray t frozen
      | o => o }
theorem mk_le {a b : Int} (h : a ≤ b) : decide (a ≤ b) = true := decide_eq_true h

theorem el_of {u : U} (h : ∀ r ∈ u.l, RowIn [.int .i16] r) : (u.l.all fun r => r.all fun x => decide ((-32768 : Int) ≤ x) && decide (x ≤ 32767)) = true := by
  rw [List.all_eq_true]
  intro r hr
  obtain ⟨h1, h2⟩ := h r hr
  rcases r with _ | ⟨x, _ | ⟨y, r⟩⟩
  · rfl
  · have := h2 0 (.int .i16) rfl
    have a : (-32768 : Int) ≤ x := this.1
    have b : x ≤ (32767 : Int) := this.2
    simp [a, b]
  · simp at h1

end Go.Proofs.YtnpadkajapialaaDoor
