/- slices.Sort at []int in this program: the kit's theorem, laid here, as a contract. -/
import Derived.Shelf.SortG.Plain
import Derived.Shelf.SortG.SortNone
import Derived.Shelf.Small.Bits
import Derived.Test.YtiohgpifeamkhaaC27Defs
import Derived.Test.YtiohgpifeamkhaaProg
namespace Go.Proofs.Ytiohgpifeamkhaa
open Go Go.Sx Go.Shelf

def Try.sortL_ren : Go.Shelf.Ren := ⟨fun | 53 => 49 | 64 => 61 | 63 => 63 | 78 => 73 | 79 => 74 | 70 => 75 | 71 => 76 | 72 => 77 | 73 => 78 | 74 => 79 | 75 => 80 | 59 => 51 | 76 => 81 | 77 => 82 | 88 => 88 | 89 => 84 | 90 => 85 | 91 => 89 | 92 => 90 | 68 => 62 | 96 => 92 | n => n, fun | 22 => 28 | 23 => 3 | 3 => 3 | 51 => 89 | 0 => 0 | 67 => 102 | 69 => 104 | 4 => 4 | 61 => 95 | 60 => 94 | 44 => 99 | 5 => 5 | 9 => 9 | 75 => 110 | 79 => 114 | 83 => 118 | 84 => 56 | n => n, fun | n => n⟩
theorem Try.sortL : Go.Proofs.SlLaysN.n53 Try.prog Try.sortL_ren where
  mixed := by kernel_rfl
  f53 := ⟨ "slices.Sort[[]int,int]", by decide, Try.func49.trans (congrArg some (by kernel_rfl))⟩
  f59 := ⟨ "cmp.Less[int]", by decide, Try.func51.trans (congrArg some (by kernel_rfl))⟩
  f63 := ⟨ "slices.pdqsortOrdered[int]", by decide, Try.func63.trans (congrArg some (by kernel_rfl))⟩
  f64 := Try.func61.trans (congrArg some (by kernel_rfl))
  f68 := ⟨ "cmp.isNaN[int]", by decide, Try.func62.trans (congrArg some (by kernel_rfl))⟩
  f70 := ⟨ "slices.insertionSortOrdered[int]", by decide, Try.func75.trans (congrArg some (by kernel_rfl))⟩
  f71 := ⟨ "slices.heapSortOrdered[int]", by decide, Try.func76.trans (congrArg some (by kernel_rfl))⟩
  f72 := ⟨ "slices.breakPatternsOrdered[int]", by decide, Try.func77.trans (congrArg some (by kernel_rfl))⟩
  f73 := ⟨ "slices.choosePivotOrdered[int]", by decide, Try.func78.trans (congrArg some (by kernel_rfl))⟩
  f74 := ⟨ "slices.reverseRangeOrdered[int]", by decide, Try.func79.trans (congrArg some (by kernel_rfl))⟩
  f75 := ⟨ "slices.partialInsertionSortOrdered[int]", by decide, Try.func80.trans (congrArg some (by kernel_rfl))⟩
  f76 := ⟨ "slices.partitionEqualOrdered[int]", by decide, Try.func81.trans (congrArg some (by kernel_rfl))⟩
  f77 := ⟨ "slices.partitionOrdered[int]", by decide, Try.func82.trans (congrArg some (by kernel_rfl))⟩
  f78 := Try.func73.trans (congrArg some (by kernel_rfl))
  f79 := Try.func74.trans (congrArg some (by kernel_rfl))
  f88 := ⟨ "slices.siftDownOrdered[int]", by decide, Try.func88.trans (congrArg some (by kernel_rfl))⟩
  f89 := Try.func84.trans (congrArg some (by kernel_rfl))
  f90 := Try.func85.trans (congrArg some (by kernel_rfl))
  f91 := ⟨ "slices.medianAdjacentOrdered[int]", by decide, Try.func89.trans (congrArg some (by kernel_rfl))⟩
  f92 := ⟨ "slices.medianOrdered[int]", by decide, Try.func90.trans (congrArg some (by kernel_rfl))⟩
  f96 := ⟨ "slices.order2Ordered[int]", by decide, Try.func92.trans (congrArg some (by kernel_rfl))⟩
  t0 := Try.underlying0
  a0 := Try.isAgg0
  z0 := Try.sizeOf0
  v0 := Try.zeroValue0
  t3 := Try.underlying3
  a3 := Try.isAgg3
  z3 := Try.sizeOf3
  v3 := Try.zeroValue3
  t4 := Try.underlying4
  a4 := Try.isAgg4
  z4 := Try.sizeOf4
  v4 := Try.zeroValue4
  t5 := Try.underlying5
  a5 := Try.isAgg5
  z5 := Try.sizeOf5
  v5 := Try.zeroValue5
  t9 := Try.underlying9
  a9 := Try.isAgg9
  z9 := Try.sizeOf9
  v9 := Try.zeroValue9
  t22 := Try.underlying28
  a22 := Try.isAgg28
  z22 := Try.sizeOf28
  v22 := Try.zeroValue28
  t23 := Try.underlying3
  a23 := Try.isAgg3
  z23 := Try.sizeOf3
  v23 := Try.zeroValue3
  t44 := Try.underlying99
  a44 := Try.isAgg99
  z44 := Try.sizeOf99
  v44 := Try.zeroValue99
  t51 := Try.underlying89
  a51 := Try.isAgg89
  z51 := Try.sizeOf89
  v51 := Try.zeroValue89
  t60 := Try.underlying94
  a60 := Try.isAgg94
  z60 := Try.sizeOf94
  v60 := Try.zeroValue94
  t61 := Try.underlying95
  a61 := Try.isAgg95
  z61 := Try.sizeOf95
  v61 := Try.zeroValue95
  t67 := Try.underlying102
  a67 := Try.isAgg102
  z67 := Try.sizeOf102
  v67 := Try.zeroValue102
  t69 := Try.underlying104
  a69 := Try.isAgg104
  z69 := Try.sizeOf104
  v69 := Try.zeroValue104
  t75 := Try.underlying110
  a75 := Try.isAgg110
  z75 := Try.sizeOf110
  v75 := Try.zeroValue110
  t79 := Try.underlying114
  a79 := Try.isAgg114
  z79 := Try.sizeOf114
  v79 := Try.zeroValue114
  t83 := Try.underlying118
  a83 := Try.isAgg118
  z83 := Try.sizeOf118
  v83 := Try.zeroValue118
  t84 := Try.underlying56
  a84 := Try.isAgg56
  z84 := Try.sizeOf56
  v84 := Try.zeroValue56

theorem vSortOf {C : Ctx} {I : Itp} {s : Nat} (hP : C.P = Try.prog) (hI : ∀ u v : U, I.f2 s u v = { l := sortPre u.l v.i.toNat }) : (cSort 49 s).Valid C I := by
  refine cSort_valid hI ?_ ?_ ?_
  · rw [hP]
    exact ⟨_, _, Try.func49, rfl, by decide⟩
  · rw [hP]
    exact fun blk off cap zs w h1 h2 h3 => AnyG.slices_Sort_int Try.sortL blk off cap zs w h1 h2 h3
  · rw [hP]
    exact fun p cap w => AnyG.slices_Sort_int_none Try.sortL p cap w

/-! ### bits.Len at 0 and 1 -/
def Try.bitsL_ren : Go.Shelf.Ren := ⟨fun | 125 => 61 | 128 => 73 | 129 => 74 | n => n, fun | 46 => 89 | 51 => 102 | 53 => 104 | n => n, fun n => n⟩
theorem Try.bitsL : Go.Proofs.Lays.n125 Try.prog Try.bitsL_ren where
  mixed := by kernel_rfl
  f125 := Try.func61.trans (congrArg some (by kernel_rfl))
  f128 := Try.func73.trans (congrArg some (by kernel_rfl))
  f129 := Try.func74.trans (congrArg some (by kernel_rfl))
  t3 := Try.underlying3
  a3 := Try.isAgg3
  z3 := Try.sizeOf3
  v3 := Try.zeroValue3
  t4 := Try.underlying4
  a4 := Try.isAgg4
  z4 := Try.sizeOf4
  v4 := Try.zeroValue4
  t5 := Try.underlying5
  a5 := Try.isAgg5
  z5 := Try.sizeOf5
  v5 := Try.zeroValue5
  t9 := Try.underlying9
  a9 := Try.isAgg9
  z9 := Try.sizeOf9
  v9 := Try.zeroValue9
  t46 := Try.underlying89
  a46 := Try.isAgg89
  z46 := Try.sizeOf89
  v46 := Try.zeroValue89
  t51 := Try.underlying102
  a51 := Try.isAgg102
  z51 := Try.sizeOf102
  v51 := Try.zeroValue102
  t53 := Try.underlying104
  a53 := Try.isAgg104
  z53 := Try.sizeOf104
  v53 := Try.zeroValue104

theorem vLen1 {C : Ctx} {I : Itp} (hP : C.P = Try.prog) : Go.Proofs.C27.cLen1.Valid C I := by
  refine ⟨by rw [hP]; exact ⟨_, _, Try.func61, rfl, by decide⟩, by rfl, ?_⟩
  intro ρ η w vs hpre hg hm hv cs
  obtain ⟨y, ys, hvs, hy, hys⟩ := hv
  obtain rfl : ys = [] := hys
  have hvs' : vs = #[y] := by apply Array.ext'; rw [hvs]
  subst hvs'
  obtain rfl : y = .int .u64 (ρ.getD 0 {}).i := hy
  obtain ⟨p1, p2⟩ : ((0 : Int) ≤ (ρ.getD 0 {}).i) ∧ ((ρ.getD 0 {}).i ≤ 1) := by
    have hp := hpre
    simp only [Go.Proofs.C27.cLen1, Go.Proofs.C27.le', holds_cons_iff, E.den, BiO.den] at hp
    exact ⟨of_decide_eq_true hp.1, of_decide_eq_true hp.2.1⟩
  have hl : (Lib.bitLen ((ρ.getD 0 {}).i).toNat : Int) = (ρ.getD 0 {}).i := by
    have : (ρ.getD 0 {}).i = 0 ∨ (ρ.getD 0 {}).i = 1 := by omega
    rcases this with e | e <;> rw [e] <;> rfl
  have hC := Any.bits_Len Try.bitsL (ρ.getD 0 {}).i w p1 (by omega)
  rw [← hP] at hC
  obtain ⟨e, w', fr, ⟨he, hw⟩, hc, hf, hl'⟩ := hC cs
  subst he
  subst hw
  refine ⟨_, w', η, ⟨fr, hc, hf, hl'⟩, Same.refl _ _, ?_, ?_⟩
  · show _ = _
    rw [hl]
    rfl
  · exact ⟨hm.free, fun h o ho => (by cases h <;> cases ho), hm.old, hm.own, hm.apart, hm.keeps⟩
end Go.Proofs.Ytiohgpifeamkhaa
