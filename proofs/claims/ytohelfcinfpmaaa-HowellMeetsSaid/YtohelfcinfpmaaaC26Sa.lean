/- Chapter 26: summaries, as the kernel reckons them. -/
import Derived.Test.YtohelfcinfpmaaaC26S
import Derived.Test.YtohelfcinfpmaaaC26Da
namespace Go.Proofs.Ytohelfcinfpmaaa
open Go Go.Sx Go.Proofs.C26

noncomputable def tmsKEq2 : List Tm := [entryTm Try.prog cKEq2,
  ⟨⟨⟨25, tl 26 [(0, (.slice 0 2 (.lit 0) (.un .len (.var 0)) none)), (1, (.slice 1 2 (.lit 0) (.un .len (.var 1)) none)), (12, (.int .i64 (.un .len (.var 0)))), (13, (.int .i64 (.var 2)))], [.at [0, 0, 1, 0, 1, 1], .lp [0, 1, 0, 1, 1], .blk 0, .at [1, 1, 1]], [], none⟩, [], [(.rows true [(.int .i64), (.int .i64)] (.var 0)), (.rows true [(.int .i64), (.int .i64)] (.var 1))]⟩, 3, [(.bi .le (.lit 0) (.var 2)), (.bi .le (.var 2) (.un .len (.var 0))), (.bi .eq (.un .len (.var 0)) (.un .len (.var 1))), (.bi .le (.un .len (.var 0)) (.lit 100)), (.fn2 4 (.var 0) (.var 1))]⟩]
def ssKEq2 : List ST := [(.br (.un .not (.bi .eq (.un .len (.var 0)) (.un .len (.var 1))))
   (.ret [(.bl false)])
   (.goto 1 [(.var 0), (.var 1), (.lit 0)])),
  (.br (.bi .lt (.var 2) (.un .len (.var 0)))
   (.br (.un .not (.bi .and (.bi .eq (.te .get (.var 0) (.var 2) (.lit 0)) (.te .get (.var 1) (.var 2) (.lit 0))) (.bi .eq (.te .get (.var 0) (.var 2) (.lit 1)) (.te .get (.var 1) (.var 2) (.lit 1)))))
    (.ret [(.bl false)])
    (.goto 1 [(.var 0), (.var 1), (.bi .add (.var 2) (.lit 1))]))
   (.ret [(.bl true)]))]
set_option maxRecDepth 100000 in
theorem sKEq2 : tmsKEq2.map (summaryF (cx [] [25]) 6000 2 tmsKEq2 cKEq2.rt) = ssKEq2 := by kernel_rfl

noncomputable def tmsKRows : List Tm := [entryTm Try.prog cKRows,
  ⟨⟨⟨27, tl 26 [(0, (.slice 0 5 (.lit 0) (.un .len (.var 0)) none)), (1, (.slice 1 5 (.lit 0) (.un .len (.var 1)) none)), (5, (.int .i64 (.var 2)))], [.at [0, 0, 1, 0, 1, 1], .lp [0, 1, 0, 1, 1], .blk 0, .at [1, 1, 1]], [], none⟩, [], [(.rows true [(.int .i64), (.int .i64), (.int .i64), (.int .i64), (.int .i64)] (.var 0)), (.rows true [(.int .i64), (.int .i64), (.int .i64), (.int .i64), (.int .i64)] (.var 1))]⟩, 3, [(.bi .le (.lit 0) (.var 2)), (.bi .le (.var 2) (.un .len (.var 0))), (.bi .eq (.un .len (.var 0)) (.un .len (.var 1))), (.bi .le (.un .len (.var 0)) (.lit 5000))]⟩]
def ssKRows : List ST := [(.br (.un .not (.bi .eq (.un .len (.var 0)) (.un .len (.var 1))))
   (.ret [(.bl false)])
   (.goto 1 [(.var 0), (.var 1), (.lit 0)])),
  (.br (.bi .lt (.var 2) (.un .len (.var 0)))
   (.br (.un .not (.bi .and (.bi .eq (.te .get (.var 0) (.var 2) (.lit 0)) (.te .get (.var 1) (.var 2) (.lit 0))) (.bi .and (.bi .eq (.te .get (.var 0) (.var 2) (.lit 1)) (.te .get (.var 1) (.var 2) (.lit 1))) (.bi .and (.bi .eq (.te .get (.var 0) (.var 2) (.lit 2)) (.te .get (.var 1) (.var 2) (.lit 2))) (.bi .and (.bi .eq (.te .get (.var 0) (.var 2) (.lit 3)) (.te .get (.var 1) (.var 2) (.lit 3))) (.bi .eq (.te .get (.var 0) (.var 2) (.lit 4)) (.te .get (.var 1) (.var 2) (.lit 4))))))))
    (.ret [(.bl false)])
    (.goto 1 [(.var 0), (.var 1), (.bi .add (.var 2) (.lit 1))]))
   (.ret [(.bl true)]))]
set_option maxRecDepth 100000 in
theorem sKRows : tmsKRows.map (summaryF (cx [] [27]) 6000 2 tmsKRows cKRows.rt) = ssKRows := by kernel_rfl

noncomputable def tmsKSame : List Tm := [entryTm Try.prog cKSame]
def ssKSame : List ST := [(.ret [(.fn2 10 (.var 5) (.var 11))])]
set_option maxRecDepth 100000 in
theorem sKSame : tmsKSame.map (summaryF (cx [cKRows] []) 6000 2 tmsKSame cKSame.rt) = ssKSame := by kernel_rfl

noncomputable def tmsKRowsN : List Tm := [entryTm Try.prog cKRowsN,
  ⟨⟨⟨27, tl 26 [(0, (.slice 0 5 (.lit 0) (.un .len (.var 0)) none)), (1, .nils), (5, (.int .i64 (.lit 0)))], [.at [0, 0, 1, 0, 1, 1], .lp [0, 1, 0, 1, 1], .blk 0, .at [1, 1, 1]], [], none⟩, [], [(.rows true [(.int .i64), (.int .i64), (.int .i64), (.int .i64), (.int .i64)] (.var 0))]⟩, 1, [(.bi .eq (.un .len (.var 0)) (.lit 0))]⟩]
def ssKRowsN : List ST := [(.goto 1 [(.var 0)]),
  (.ret [(.bl true)])]
set_option maxRecDepth 100000 in
theorem sKRowsN : tmsKRowsN.map (summaryF (cx [] [27]) 6000 1 tmsKRowsN cKRowsN.rt) = ssKRowsN := by kernel_rfl

noncomputable def tmsKSameN : List Tm := [entryTm Try.prog cKSameN]
def ssKSameN : List ST := [(.ret [(.bl true)])]
set_option maxRecDepth 100000 in
theorem sKSameN : tmsKSameN.map (summaryF (cx [cKRowsN] []) 6000 1 tmsKSameN cKSameN.rt) = ssKSameN := by kernel_rfl

noncomputable def tmsKTells : List Tm := [entryTm Try.prog cKTells]
def ssKTells : List ST := [(.br (.bi .beq (.fn1 2 (.var 0)) (.fn1 2 (.var 0)))
   (.need [(.bi .le (.un .len (.fn1 5 (.var 0))) (.lit 100)), (.fn2 4 (.fn1 5 (.var 0)) (.fn1 5 (.var 0)))] (.need [(.bi .le (.un .len (.fn2 3 (.var 0) (.var 1))) (.lit 5000)), (.fn2 10 (.fn2 3 (.var 0) (.var 1)) (.fn2 3 (.var 0) (.var 1)))] (.ret [(.bl true)])))
   (.ret [(.bl false)]))]
set_option maxRecDepth 100000 in
theorem sKTells : tmsKTells.map (summaryF (cx [cPrimeT, cRPrimeT, cRoot, cRRoot, cStart, cRStart, cMake, cRMake, cKEq2, cKSame] []) 6000 0 tmsKTells cKTells.rt) = ssKTells := by kernel_rfl

noncomputable def tmsLTells : List Tm := [entryTm Try.prog cLTells]
def ssLTells : List ST := [(.ret [])]
set_option maxRecDepth 100000 in
theorem sLTells : tmsLTells.map (summaryF (cx [cKTells, cKAw] []) 6000 0 tmsLTells cLTells.rt) = ssLTells := by kernel_rfl

noncomputable def tmsLStrong : List Tm := [entryTm Try.prog cLStrong]
def ssLStrong : List ST := [(.need [(.un .not (.bi .eq (.bi .add (.bi .mul (.lit 2) (.bi .add (.bi .rem (.var 0) (.lit 23)) (.lit 2))) (.lit (-1))) (.lit 0)))] (.need [(.bi .le (.un .len (.fn1 5 (.bi .add (.bi .rem (.var 0) (.lit 23)) (.lit 2)))) (.lit 100))] (.br (.bi .eq (.un (.wrap .i64) (.bi .add (.un (.wrap .i64) (.bi .add (.un (.wrap .i64) (.bi .add (.fn1 6 (.bi .add (.bi .rem (.var 0) (.lit 23)) (.lit 2))) (.fn2 1 (.bi .add (.bi .mul (.lit 2) (.bi .add (.bi .rem (.var 0) (.lit 23)) (.lit 2))) (.lit (-1))) (.fn1 5 (.bi .add (.bi .rem (.var 0) (.lit 23)) (.lit 2)))))) (.fn2 2 (.bi .add (.bi .rem (.var 0) (.lit 23)) (.lit 2)) (.un (.wrap .i64) (.bi .add (.bi .rem (.var 1) (.bi .add (.bi .mul (.lit 2) (.bi .add (.bi .rem (.var 0) (.lit 23)) (.lit 2))) (.lit (-1)))) (.lit 1)))))) (.fn3 0 (.bi .add (.bi .mul (.lit 2) (.bi .add (.bi .rem (.var 0) (.lit 23)) (.lit 2))) (.lit (-1))) (.un (.wrap .i64) (.bi .add (.bi .rem (.var 1) (.bi .add (.bi .mul (.lit 2) (.bi .add (.bi .rem (.var 0) (.lit 23)) (.lit 2))) (.lit (-1)))) (.lit 1))) (.fn1 5 (.bi .add (.bi .rem (.var 0) (.lit 23)) (.lit 2)))))) (.lit 0))
   (.br (.bi .beq (.fn2 0 (.bi .add (.bi .mul (.lit 2) (.bi .add (.bi .rem (.var 0) (.lit 23)) (.lit 2))) (.lit (-1))) (.fn1 5 (.bi .add (.bi .rem (.var 0) (.lit 23)) (.lit 2)))) (.fn1 2 (.bi .add (.bi .rem (.var 0) (.lit 23)) (.lit 2))))
    (.br (.bi .beq (.bi .eq (.fn1 1 (.bi .add (.bi .rem (.var 0) (.lit 23)) (.lit 2))) (.bi .add (.bi .mul (.lit 2) (.bi .add (.bi .rem (.var 0) (.lit 23)) (.lit 2))) (.lit (-1)))) (.fn1 2 (.bi .add (.bi .rem (.var 0) (.lit 23)) (.lit 2))))
     (.br (.bi .eq (.un .len (.fn1 5 (.bi .add (.bi .rem (.var 0) (.lit 23)) (.lit 2)))) (.bi .add (.bi .rem (.var 0) (.lit 23)) (.lit 1)))
      (.need [(.bi .le (.un .len (.fn2 3 (.bi .add (.bi .rem (.var 0) (.lit 23)) (.lit 2)) (.un (.wrap .i64) (.bi .add (.bi .rem (.var 1) (.bi .add (.bi .mul (.lit 2) (.bi .add (.bi .rem (.var 0) (.lit 23)) (.lit 2))) (.lit (-1)))) (.lit 1))))) (.lit 5000)), (.bi .eq (.fn2 5 (.bi .add (.bi .rem (.var 0) (.lit 23)) (.lit 2)) (.un (.wrap .i64) (.bi .add (.bi .rem (.var 1) (.bi .add (.bi .mul (.lit 2) (.bi .add (.bi .rem (.var 0) (.lit 23)) (.lit 2))) (.lit (-1)))) (.lit 1)))) (.fn3 2 (.bi .add (.bi .mul (.lit 2) (.bi .add (.bi .rem (.var 0) (.lit 23)) (.lit 2))) (.lit (-1))) (.un (.wrap .i64) (.bi .add (.bi .rem (.var 1) (.bi .add (.bi .mul (.lit 2) (.bi .add (.bi .rem (.var 0) (.lit 23)) (.lit 2))) (.lit (-1)))) (.lit 1))) (.fn1 5 (.bi .add (.bi .rem (.var 0) (.lit 23)) (.lit 2))))), (.bi .eq (.fn2 6 (.bi .add (.bi .rem (.var 0) (.lit 23)) (.lit 2)) (.un (.wrap .i64) (.bi .add (.bi .rem (.var 1) (.bi .add (.bi .mul (.lit 2) (.bi .add (.bi .rem (.var 0) (.lit 23)) (.lit 2))) (.lit (-1)))) (.lit 1)))) (.fn3 3 (.bi .add (.bi .mul (.lit 2) (.bi .add (.bi .rem (.var 0) (.lit 23)) (.lit 2))) (.lit (-1))) (.un (.wrap .i64) (.bi .add (.bi .rem (.var 1) (.bi .add (.bi .mul (.lit 2) (.bi .add (.bi .rem (.var 0) (.lit 23)) (.lit 2))) (.lit (-1)))) (.lit 1))) (.fn1 5 (.bi .add (.bi .rem (.var 0) (.lit 23)) (.lit 2))))), (.bi .eq (.fn2 7 (.bi .add (.bi .rem (.var 0) (.lit 23)) (.lit 2)) (.un (.wrap .i64) (.bi .add (.bi .rem (.var 1) (.bi .add (.bi .mul (.lit 2) (.bi .add (.bi .rem (.var 0) (.lit 23)) (.lit 2))) (.lit (-1)))) (.lit 1)))) (.fn3 4 (.bi .add (.bi .mul (.lit 2) (.bi .add (.bi .rem (.var 0) (.lit 23)) (.lit 2))) (.lit (-1))) (.un (.wrap .i64) (.bi .add (.bi .rem (.var 1) (.bi .add (.bi .mul (.lit 2) (.bi .add (.bi .rem (.var 0) (.lit 23)) (.lit 2))) (.lit (-1)))) (.lit 1))) (.fn1 5 (.bi .add (.bi .rem (.var 0) (.lit 23)) (.lit 2))))), (.bi .eq (.fn2 8 (.bi .add (.bi .rem (.var 0) (.lit 23)) (.lit 2)) (.un (.wrap .i64) (.bi .add (.bi .rem (.var 1) (.bi .add (.bi .mul (.lit 2) (.bi .add (.bi .rem (.var 0) (.lit 23)) (.lit 2))) (.lit (-1)))) (.lit 1)))) (.fn3 5 (.bi .add (.bi .mul (.lit 2) (.bi .add (.bi .rem (.var 0) (.lit 23)) (.lit 2))) (.lit (-1))) (.un (.wrap .i64) (.bi .add (.bi .rem (.var 1) (.bi .add (.bi .mul (.lit 2) (.bi .add (.bi .rem (.var 0) (.lit 23)) (.lit 2))) (.lit (-1)))) (.lit 1))) (.fn1 5 (.bi .add (.bi .rem (.var 0) (.lit 23)) (.lit 2))))), (.bi .eq (.fn2 9 (.bi .add (.bi .rem (.var 0) (.lit 23)) (.lit 2)) (.un (.wrap .i64) (.bi .add (.bi .rem (.var 1) (.bi .add (.bi .mul (.lit 2) (.bi .add (.bi .rem (.var 0) (.lit 23)) (.lit 2))) (.lit (-1)))) (.lit 1)))) (.fn3 6 (.bi .add (.bi .mul (.lit 2) (.bi .add (.bi .rem (.var 0) (.lit 23)) (.lit 2))) (.lit (-1))) (.un (.wrap .i64) (.bi .add (.bi .rem (.var 1) (.bi .add (.bi .mul (.lit 2) (.bi .add (.bi .rem (.var 0) (.lit 23)) (.lit 2))) (.lit (-1)))) (.lit 1))) (.fn1 5 (.bi .add (.bi .rem (.var 0) (.lit 23)) (.lit 2))))), (.fn2 10 (.fn2 3 (.bi .add (.bi .rem (.var 0) (.lit 23)) (.lit 2)) (.un (.wrap .i64) (.bi .add (.bi .rem (.var 1) (.bi .add (.bi .mul (.lit 2) (.bi .add (.bi .rem (.var 0) (.lit 23)) (.lit 2))) (.lit (-1)))) (.lit 1)))) (.fn3 1 (.bi .add (.bi .mul (.lit 2) (.bi .add (.bi .rem (.var 0) (.lit 23)) (.lit 2))) (.lit (-1))) (.un (.wrap .i64) (.bi .add (.bi .rem (.var 1) (.bi .add (.bi .mul (.lit 2) (.bi .add (.bi .rem (.var 0) (.lit 23)) (.lit 2))) (.lit (-1)))) (.lit 1))) (.fn1 5 (.bi .add (.bi .rem (.var 0) (.lit 23)) (.lit 2)))))] (.ret [(.bl true)]))
      (.ret [(.bl false)]))
     (.ret [(.bl false)]))
    (.ret [(.bl false)]))
   (.ret [(.bl false)]))))]
set_option maxRecDepth 100000 in
theorem sLStrong : tmsLStrong.map (summaryF (cx [cPrimeT, cStart, cCheck, cMake, cFrom, cKSame, cKAw] [5]) 6000 0 tmsLStrong cLStrong.rt) = ssLStrong := by kernel_rfl

noncomputable def tmsLRoot : List Tm := [entryTm Try.prog cLRoot,
  ⟨⟨⟨6, tl 84 [(5, (.int .i64 (.var 0))), (6, (.int .i64 (.var 1))), (7, (.int .i64 (.var 2))), (8, (.bool (.var 3))), (9, (.int .i64 (.var 4)))], [.at [0, 0, 1, 0, 1, 1, 1, 1, 1], .lp [0, 1, 0, 1, 1, 1, 1, 1], .blk 0, .at [1, 1, 1, 1, 1, 1]], [], none⟩, [], []⟩, 5, [(.bi .le (.lit 0) (.var 0))]⟩,
  ⟨⟨⟨6, tl 84 [(5, (.int .i64 (.var 0))), (6, (.int .i64 (.var 1))), (7, (.int .i64 (.var 2))), (10, (.int .i64 (.var 3)))], [.at [0, 0, 1, 0, 1, 1, 1, 1, 1, 1, 1], .lp [0, 1, 0, 1, 1, 1, 1, 1, 1, 1], .blk 2, .at [1, 1, 1, 1, 1, 1, 1, 1]], [], none⟩, [], []⟩, 4, [(.bi .le (.lit 0) (.var 0))]⟩,
  ⟨⟨⟨6, tl 84 [(5, (.int .i64 (.var 0))), (6, (.int .i64 (.var 1))), (7, (.int .i64 (.var 2))), (10, (.int .i64 (.var 5))), (11, (.int .i64 (.var 3))), (12, (.int .i64 (.var 4)))], [.at [0, 0, 0, 1, 0, 0, 1, 0, 0, 1, 0, 1, 1, 1, 1, 1, 1, 1], .lp [0, 0, 1, 0, 0, 1, 0, 0, 1, 0, 1, 1, 1, 1, 1, 1, 1], .blk 4, .at [1, 1, 0, 0, 1, 0, 0, 1, 0, 1, 1, 1, 1, 1, 1, 1], .blk 3, .at [1, 1, 0, 0, 1, 0, 1, 1, 1, 1, 1, 1, 1], .lp [0, 1, 0, 1, 1, 1, 1, 1, 1, 1], .blk 2, .at [1, 1, 1, 1, 1, 1, 1, 1]], [], none⟩, [], []⟩, 6, [(.bi .le (.lit 0) (.var 0)), (.un .not (.bi .eq (.var 0) (.lit 0))), (.bi .le (.var 5) (.var 1))]⟩]
def ssLRoot : List ST := [(.goto 1 [(.bi .rem (.bi .add (.var 0) (.bi .mul (.lit 256) (.var 1))) (.lit 401)), (.fn1 3 (.bi .rem (.bi .add (.var 0) (.bi .mul (.lit 256) (.var 1))) (.lit 401))), (.fn1 4 (.bi .rem (.bi .add (.var 0) (.bi .mul (.lit 256) (.var 1))) (.lit 401))), (.bi .lt (.bi .rem (.bi .add (.var 0) (.bi .mul (.lit 256) (.var 1))) (.lit 401)) (.lit 3)), (.lit 2)]),
  (.br (.bi .lt (.var 4) (.var 0))
   (.br (.var 3)
    (.goto 1 [(.var 0), (.var 1), (.var 2), (.bl true), (.un (.wrap .i64) (.bi .add (.var 4) (.lit 1)))])
    (.need [(.un .not (.bi .eq (.var 4) (.lit 0)))] (.goto 1 [(.var 0), (.var 1), (.var 2), (.bi .eq (.bi .rem (.var 0) (.var 4)) (.lit 0)), (.un (.wrap .i64) (.bi .add (.var 4) (.lit 1)))])))
   (.br (.var 3)
    (.br (.bi .eq (.var 1) (.lit 0))
     (.ret [(.bi .eq (.var 2) (.lit 2))])
     (.ret [(.bl false)]))
    (.goto 2 [(.var 0), (.var 1), (.var 2), (.lit 2)]))),
  (.br (.bi .le (.var 3) (.var 1))
   (.need [(.un .not (.bi .eq (.var 0) (.lit 0)))] (.goto 3 [(.var 0), (.var 1), (.var 2), (.lit 1), (.bi .rem (.var 3) (.var 0)), (.var 3)]))
   (.br (.bi .eq (.var 2) (.lit 0))
    (.br (.bi .le (.lit 2) (.var 1))
     (.ret [(.bi .lt (.var 1) (.var 0))])
     (.ret [(.bl false)]))
    (.ret [(.bl false)]))),
  (.br (.un .not (.bi .eq (.var 4) (.lit 1)))
   (.goto 3 [(.var 0), (.var 1), (.var 2), (.un (.wrap .i64) (.bi .add (.var 3) (.lit 1))), (.bi .rem (.un (.wrap .i64) (.bi .mul (.var 4) (.var 5))) (.var 0)), (.var 5)])
   (.br (.un .not (.bi .beq (.bi .eq (.var 3) (.un (.wrap .i64) (.bi .add (.var 0) (.lit (-1))))) (.bi .eq (.var 5) (.var 1))))
    (.ret [(.bl false)])
    (.goto 2 [(.var 0), (.var 1), (.var 2), (.un (.wrap .i64) (.bi .add (.var 5) (.lit 1)))])))]
set_option maxRecDepth 100000 in
theorem sLRoot : tmsLRoot.map (summaryF (cx [cRoot, cKAw] [6]) 6000 0 tmsLRoot cLRoot.rt) = ssLRoot := by kernel_rfl

end Go.Proofs.Ytohelfcinfpmaaa
