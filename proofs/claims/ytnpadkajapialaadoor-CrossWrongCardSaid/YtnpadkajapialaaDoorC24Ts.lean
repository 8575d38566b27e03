/- slices.Sort at []int in this program: the kit's theorem, laid here, as a contract. -/
import Derived.Shelf.SortG.Plain
import Derived.Shelf.SortG.SortNone
import Derived.Test.YtnpadkajapialaaDoorSxVI
import Derived.Test.YtnpadkajapialaaDoorProg
namespace Go.Proofs.YtnpadkajapialaaDoor
open Go Go.Sx Go.Shelf

def Tryd.sortL_ren : Go.Shelf.Ren := ⟨fun | 53 => 64 | 64 => 78 | 63 => 77 | 78 => 90 | 79 => 91 | 70 => 81 | 71 => 82 | 72 => 83 | 73 => 84 | 74 => 85 | 75 => 86 | 59 => 87 | 76 => 88 | 77 => 89 | 88 => 92 | 89 => 93 | 90 => 94 | 91 => 95 | 92 => 96 | 68 => 97 | 96 => 98 | n => n, fun | 22 => 22 | 23 => 3 | 3 => 3 | 51 => 89 | 0 => 0 | 67 => 118 | 69 => 66 | 4 => 4 | 61 => 111 | 60 => 110 | 44 => 63 | 5 => 5 | 9 => 9 | 75 => 120 | 79 => 124 | 83 => 126 | 84 => 50 | n => n, fun | n => n⟩
theorem Tryd.sortL : Go.Proofs.SlLaysN.n53 Tryd.prog Tryd.sortL_ren where
  mixed := by kernel_rfl
  f53 := ⟨ "slices.Sort[[]int,int]", by decide, Tryd.func64.trans (congrArg some (by kernel_rfl))⟩
  f59 := ⟨ "cmp.Less[int]", by decide, Tryd.func87.trans (congrArg some (by kernel_rfl))⟩
  f63 := ⟨ "slices.pdqsortOrdered[int]", by decide, Tryd.func77.trans (congrArg some (by kernel_rfl))⟩
  f64 := Tryd.func78.trans (congrArg some (by kernel_rfl))
  f68 := ⟨ "cmp.isNaN[int]", by decide, Tryd.func97.trans (congrArg some (by kernel_rfl))⟩
  f70 := ⟨ "slices.insertionSortOrdered[int]", by decide, Tryd.func81.trans (congrArg some (by kernel_rfl))⟩
  f71 := ⟨ "slices.heapSortOrdered[int]", by decide, Tryd.func82.trans (congrArg some (by kernel_rfl))⟩
  f72 := ⟨ "slices.breakPatternsOrdered[int]", by decide, Tryd.func83.trans (congrArg some (by kernel_rfl))⟩
  f73 := ⟨ "slices.choosePivotOrdered[int]", by decide, Tryd.func84.trans (congrArg some (by kernel_rfl))⟩
  f74 := ⟨ "slices.reverseRangeOrdered[int]", by decide, Tryd.func85.trans (congrArg some (by kernel_rfl))⟩
  f75 := ⟨ "slices.partialInsertionSortOrdered[int]", by decide, Tryd.func86.trans (congrArg some (by kernel_rfl))⟩
  f76 := ⟨ "slices.partitionEqualOrdered[int]", by decide, Tryd.func88.trans (congrArg some (by kernel_rfl))⟩
  f77 := ⟨ "slices.partitionOrdered[int]", by decide, Tryd.func89.trans (congrArg some (by kernel_rfl))⟩
  f78 := Tryd.func90.trans (congrArg some (by kernel_rfl))
  f79 := Tryd.func91.trans (congrArg some (by kernel_rfl))
  f88 := ⟨ "slices.siftDownOrdered[int]", by decide, Tryd.func92.trans (congrArg some (by kernel_rfl))⟩
  f89 := Tryd.func93.trans (congrArg some (by kernel_rfl))
  f90 := Tryd.func94.trans (congrArg some (by kernel_rfl))
  f91 := ⟨ "slices.medianAdjacentOrdered[int]", by decide, Tryd.func95.trans (congrArg some (by kernel_rfl))⟩
  f92 := ⟨ "slices.medianOrdered[int]", by decide, Tryd.func96.trans (congrArg some (by kernel_rfl))⟩
  f96 := ⟨ "slices.order2Ordered[int]", by decide, Tryd.func98.trans (congrArg some (by kernel_rfl))⟩
  t0 := Tryd.underlying0
  a0 := Tryd.isAgg0
  z0 := Tryd.sizeOf0
  v0 := Tryd.zeroValue0
  t3 := Tryd.underlying3
  a3 := Tryd.isAgg3
  z3 := Tryd.sizeOf3
  v3 := Tryd.zeroValue3
  t4 := Tryd.underlying4
  a4 := Tryd.isAgg4
  z4 := Tryd.sizeOf4
  v4 := Tryd.zeroValue4
  t5 := Tryd.underlying5
  a5 := Tryd.isAgg5
  z5 := Tryd.sizeOf5
  v5 := Tryd.zeroValue5
  t9 := Tryd.underlying9
  a9 := Tryd.isAgg9
  z9 := Tryd.sizeOf9
  v9 := Tryd.zeroValue9
  t22 := Tryd.underlying22
  a22 := Tryd.isAgg22
  z22 := Tryd.sizeOf22
  v22 := Tryd.zeroValue22
  t23 := Tryd.underlying3
  a23 := Tryd.isAgg3
  z23 := Tryd.sizeOf3
  v23 := Tryd.zeroValue3
  t44 := Tryd.underlying63
  a44 := Tryd.isAgg63
  z44 := Tryd.sizeOf63
  v44 := Tryd.zeroValue63
  t51 := Tryd.underlying89
  a51 := Tryd.isAgg89
  z51 := Tryd.sizeOf89
  v51 := Tryd.zeroValue89
  t60 := Tryd.underlying110
  a60 := Tryd.isAgg110
  z60 := Tryd.sizeOf110
  v60 := Tryd.zeroValue110
  t61 := Tryd.underlying111
  a61 := Tryd.isAgg111
  z61 := Tryd.sizeOf111
  v61 := Tryd.zeroValue111
  t67 := Tryd.underlying118
  a67 := Tryd.isAgg118
  z67 := Tryd.sizeOf118
  v67 := Tryd.zeroValue118
  t69 := Tryd.underlying66
  a69 := Tryd.isAgg66
  z69 := Tryd.sizeOf66
  v69 := Tryd.zeroValue66
  t75 := Tryd.underlying120
  a75 := Tryd.isAgg120
  z75 := Tryd.sizeOf120
  v75 := Tryd.zeroValue120
  t79 := Tryd.underlying124
  a79 := Tryd.isAgg124
  z79 := Tryd.sizeOf124
  v79 := Tryd.zeroValue124
  t83 := Tryd.underlying126
  a83 := Tryd.isAgg126
  z83 := Tryd.sizeOf126
  v83 := Tryd.zeroValue126
  t84 := Tryd.underlying50
  a84 := Tryd.isAgg50
  z84 := Tryd.sizeOf50
  v84 := Tryd.zeroValue50

theorem vSortOf {C : Ctx} {I : Itp} {s : Nat} (hP : C.P = Tryd.prog) (hI : ∀ u v : U, I.f2 s u v = { l := sortPre u.l v.i.toNat }) : (cSortD 64 s).Valid C I := by
  refine cSortD_valid hI ?_ ?_ ?_
  · rw [hP]
    exact ⟨_, _, Tryd.func64, rfl, by decide⟩
  · rw [hP]
    exact fun blk off cap zs w h1 h2 h3 => AnyG.slices_Sort_int Tryd.sortL blk off cap zs w h1 h2 h3
  · rw [hP]
    exact fun p cap w => AnyG.slices_Sort_int_none Tryd.sortL p cap w
end Go.Proofs.YtnpadkajapialaaDoor
