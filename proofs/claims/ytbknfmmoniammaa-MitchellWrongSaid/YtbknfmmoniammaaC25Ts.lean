/- slices.Sort at []int in this program: the kit's theorem, laid here, as a contract. -/
import Derived.Shelf.SortG.Plain
import Derived.Shelf.SortG.SortNone
import Derived.Test.YtbknfmmoniammaaSxVI
import Derived.Test.YtbknfmmoniammaaProg
namespace Go.Proofs.Ytbknfmmoniammaa
open Go Go.Sx Go.Shelf

def Try.sortL_ren : Go.Shelf.Ren := ⟨fun | 53 => 47 | 64 => 58 | 63 => 57 | 78 => 73 | 79 => 74 | 70 => 64 | 71 => 65 | 72 => 66 | 73 => 67 | 74 => 68 | 75 => 69 | 59 => 70 | 76 => 71 | 77 => 72 | 88 => 75 | 89 => 76 | 90 => 77 | 91 => 78 | 92 => 79 | 68 => 80 | 96 => 81 | n => n, fun | 22 => 31 | 23 => 3 | 3 => 3 | 51 => 100 | 0 => 0 | 67 => 112 | 69 => 114 | 4 => 4 | 61 => 104 | 60 => 103 | 44 => 109 | 5 => 5 | 9 => 9 | 75 => 115 | 79 => 71 | 83 => 120 | 84 => 51 | n => n, fun | n => n⟩
theorem Try.sortL : Go.Proofs.SlLaysN.n53 Try.prog Try.sortL_ren where
  mixed := by kernel_rfl
  f53 := ⟨ "slices.Sort[[]int,int]", by decide, Try.func47.trans (congrArg some (by kernel_rfl))⟩
  f59 := ⟨ "cmp.Less[int]", by decide, Try.func70.trans (congrArg some (by kernel_rfl))⟩
  f63 := ⟨ "slices.pdqsortOrdered[int]", by decide, Try.func57.trans (congrArg some (by kernel_rfl))⟩
  f64 := Try.func58.trans (congrArg some (by kernel_rfl))
  f68 := ⟨ "cmp.isNaN[int]", by decide, Try.func80.trans (congrArg some (by kernel_rfl))⟩
  f70 := ⟨ "slices.insertionSortOrdered[int]", by decide, Try.func64.trans (congrArg some (by kernel_rfl))⟩
  f71 := ⟨ "slices.heapSortOrdered[int]", by decide, Try.func65.trans (congrArg some (by kernel_rfl))⟩
  f72 := ⟨ "slices.breakPatternsOrdered[int]", by decide, Try.func66.trans (congrArg some (by kernel_rfl))⟩
  f73 := ⟨ "slices.choosePivotOrdered[int]", by decide, Try.func67.trans (congrArg some (by kernel_rfl))⟩
  f74 := ⟨ "slices.reverseRangeOrdered[int]", by decide, Try.func68.trans (congrArg some (by kernel_rfl))⟩
  f75 := ⟨ "slices.partialInsertionSortOrdered[int]", by decide, Try.func69.trans (congrArg some (by kernel_rfl))⟩
  f76 := ⟨ "slices.partitionEqualOrdered[int]", by decide, Try.func71.trans (congrArg some (by kernel_rfl))⟩
  f77 := ⟨ "slices.partitionOrdered[int]", by decide, Try.func72.trans (congrArg some (by kernel_rfl))⟩
  f78 := Try.func73.trans (congrArg some (by kernel_rfl))
  f79 := Try.func74.trans (congrArg some (by kernel_rfl))
  f88 := ⟨ "slices.siftDownOrdered[int]", by decide, Try.func75.trans (congrArg some (by kernel_rfl))⟩
  f89 := Try.func76.trans (congrArg some (by kernel_rfl))
  f90 := Try.func77.trans (congrArg some (by kernel_rfl))
  f91 := ⟨ "slices.medianAdjacentOrdered[int]", by decide, Try.func78.trans (congrArg some (by kernel_rfl))⟩
  f92 := ⟨ "slices.medianOrdered[int]", by decide, Try.func79.trans (congrArg some (by kernel_rfl))⟩
  f96 := ⟨ "slices.order2Ordered[int]", by decide, Try.func81.trans (congrArg some (by kernel_rfl))⟩
  t0 := Try.underlying0
  a0 := Try.isAgg0
  z0 := Try.sizeOf0
  v0 := Try.zeroValue0
  t3 := Try.underlying3
  a3 := Try.isAgg3
  z3 := Try.sizeOf3
  v3 := Try.zeroValue3
  t4 := Try.underlying4
  a4 := Try.isAgg4
  z4 := Try.sizeOf4
  v4 := Try.zeroValue4
  t5 := Try.underlying5
  a5 := Try.isAgg5
  z5 := Try.sizeOf5
  v5 := Try.zeroValue5
  t9 := Try.underlying9
  a9 := Try.isAgg9
  z9 := Try.sizeOf9
  v9 := Try.zeroValue9
  t22 := Try.underlying31
  a22 := Try.isAgg31
  z22 := Try.sizeOf31
  v22 := Try.zeroValue31
  t23 := Try.underlying3
  a23 := Try.isAgg3
  z23 := Try.sizeOf3
  v23 := Try.zeroValue3
  t44 := Try.underlying109
  a44 := Try.isAgg109
  z44 := Try.sizeOf109
  v44 := Try.zeroValue109
  t51 := Try.underlying100
  a51 := Try.isAgg100
  z51 := Try.sizeOf100
  v51 := Try.zeroValue100
  t60 := Try.underlying103
  a60 := Try.isAgg103
  z60 := Try.sizeOf103
  v60 := Try.zeroValue103
  t61 := Try.underlying104
  a61 := Try.isAgg104
  z61 := Try.sizeOf104
  v61 := Try.zeroValue104
  t67 := Try.underlying112
  a67 := Try.isAgg112
  z67 := Try.sizeOf112
  v67 := Try.zeroValue112
  t69 := Try.underlying114
  a69 := Try.isAgg114
  z69 := Try.sizeOf114
  v69 := Try.zeroValue114
  t75 := Try.underlying115
  a75 := Try.isAgg115
  z75 := Try.sizeOf115
  v75 := Try.zeroValue115
  t79 := Try.underlying71
  a79 := Try.isAgg71
  z79 := Try.sizeOf71
  v79 := Try.zeroValue71
  t83 := Try.underlying120
  a83 := Try.isAgg120
  z83 := Try.sizeOf120
  v83 := Try.zeroValue120
  t84 := Try.underlying51
  a84 := Try.isAgg51
  z84 := Try.sizeOf51
  v84 := Try.zeroValue51

theorem vSortOf {C : Ctx} {I : Itp} {s : Nat} (hP : C.P = Try.prog) (hI : ∀ u v : U, I.f2 s u v = { l := sortPre u.l v.i.toNat }) : (cSort 47 s).Valid C I := by
  refine cSort_valid hI ?_ ?_ ?_
  · rw [hP]
    exact ⟨_, _, Try.func47, rfl, by decide⟩
  · rw [hP]
    exact fun blk off cap zs w h1 h2 h3 => AnyG.slices_Sort_int Try.sortL blk off cap zs w h1 h2 h3
  · rw [hP]
    exact fun p cap w => AnyG.slices_Sort_int_none Try.sortL p cap w
end Go.Proofs.Ytbknfmmoniammaa
