/- Chapter 19: the laws hold. -/
import Derived.Test.YtmncmboeddlcmaaDoorC19T
import Derived.Test.YtmncmboeddlcmaaDoorC19R
import Derived.Test.YtmncmboeddlcmaaDoorSxVI
import Derived.Lib.LaidTab
namespace Go.Proofs.YtmncmboeddlcmaaDoor
open Go Go.Sx Go.Proofs.C19

def lawCs : List Ctr := [cImp, cScale, cRef, cSw, cRSw, cAw, cMatch, cRun, cRMatch, cRRun, cMt, cMd]
theorem lawAll {fs : List Nat} : ∀ c ∈ (cx lawCs fs).ctrs, c.Valid (cx lawCs fs) I19 := by
  intro c hc
  have : c = cImp ∨ c = cScale ∨ c = cRef ∨ c = cSw ∨ c = cRSw ∨ c = cAw ∨ c = cMatch ∨ c = cRun ∨ c = cRMatch ∨ c = cRRun ∨ c = cMt ∨ c = cMd := by simpa [cx, lawCs] using hc
  rcases this with rfl | rfl | rfl | rfl | rfl | rfl | rfl | rfl | rfl | rfl | rfl | rfl
  · exact re vImp
  · exact re (vScale _)
  · exact re vRef
  · exact re vSw
  · exact re vRSw
  · exact re vAw
  · exact re vMatch
  · exact re vRun
  · exact re vRMatch
  · exact re vRRun
  · exact re vMt
  · exact re vMd

theorem vTells : cTells.Valid (cx lawCs []) I19 := by
  refine Ctr.valid_goes (glIn _ _) lawAll (by decide) (by decide) (by kernel_rfl) rfl sTells ?_
  intro ρ0 hpre
  refine Runs.step rfl hpre ⟨fun _ => rfl, fun h1 => ⟨fun _ => rfl, fun h2 => ⟨fun _ => rfl, fun h3 => ⟨?_, fun _ => rfl⟩⟩⟩⟩
  have e1 : ¬ (ρ0.getD 1 {}).i < 0 := no_lt h1
  have e3 : ¬ (ρ0.getD 1 {}).i = 0 := no_eq h3
  exact Holds.and (mk_le (show (0 : Int) ≤ (ρ0.getD 1 {}).i + -1 by omega)) Holds.nil

theorem vMatches : cMatches.Valid (cx lawCs []) I19 := by
  refine Ctr.valid_goes (glIn _ _) lawAll (by decide) (by decide) (by kernel_rfl) rfl sMatches ?_
  intro ρ0 hpre
  exact Runs.step rfl hpre ⟨fun _ => rfl, fun _ => rfl⟩

theorem tab_flat (k : IntKind) : ∀ zs : List Int, (zs.map fun n => [n]).flatMap (rowVals [.int k]) = zs.map fun z => Value.int k z
  | [] => rfl
  | z :: zs => by rw [List.map_cons, List.flatMap_cons, tab_flat k zs]; rfl
/-- a table of numbers, looked at as rows of one -/
theorem tab_den {P : Program} {W : World} {name : String} {k : IntKind} {zs : List Int} {g : Nat} (ht : Lib.TabIs P W name k zs) (hg : P.globalNamed name = some g) (hz : 0 < zs.length) {I : Itp} {us : List U} {η : Env} :
    (O.rows true [.int k] (rowsOf (zs.map fun n => rowOf [.lit n]))).den P I us η ⟨g, zs.length, 1, 0⟩ W.heap[g]? := by
  have hA : ((rowsOf (zs.map fun n => rowOf [.lit n])).den I us).l = zs.map fun n => [n] := by
    rw [rowsOf_l, List.map_map]
    rfl
  unfold Lib.TabIs World.var? at ht
  rw [hg, Option.bind_some] at ht
  split at ht
  · rename_i cs ty fz hh
    simp only [Option.some.injEq] at ht
    subst ht
    refine ⟨by simp, rfl, by rw [hA]; simp, fun h => by simp at h, .inr ⟨hz, _, ty, fz, hh, fun h => by simp at h, by rw [hA]; simp, by simp, fun h => by simp at h, ?_⟩⟩
    rw [hA]
    simp only [List.drop_zero, List.length_map, List.length_cons, List.length_nil, Nat.zero_add, Nat.mul_one]
    rw [List.take_of_length_le (by simp), tab_flat]
  · simp at ht

end Go.Proofs.YtmncmboeddlcmaaDoor
