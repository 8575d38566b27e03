/- Chapter 19: the summaries of the laws, as the kernel reckons them. -/
import Derived.Test.YtmncmboeddlcmaaDoorC19S
namespace Go.Proofs.YtmncmboeddlcmaaDoor
open Go Go.Sx Go.Proofs.C19

noncomputable def tmsTells : List Tm := [entryTm Tryd.prog cTells]
def ssTells : List ST := [(.br (.bi .lt (.var 1) (.lit 0))
   (.ret [])
   (.br (.bi .lt (.lit 24) (.var 1))
    (.ret [])
    (.br (.bi .eq (.var 1) (.lit 0))
     (.ret [])
     (.need [(.bi .le (.lit 0) (.bi .add (.var 1) (.lit (-1))))] (.ret [])))))]
set_option maxRecDepth 100000 in
theorem sTells : tmsTells.map (summaryF (cx [cImp, cScale, cRef, cSw, cRSw, cAw, cMatch, cRun, cRMatch, cRRun, cMt, cMd] []) 6000 1 tmsTells cTells.rt) = ssTells := by kernel_rfl

noncomputable def tmsMatches : List Tm := [entryTm Tryd.prog cMatches]
def ssMatches : List ST := [(.br (.bi .lt (.lit 200) (.un .len (.var 0)))
   (.ret [])
   (.ret []))]
set_option maxRecDepth 100000 in
theorem sMatches : tmsMatches.map (summaryF (cx [cImp, cScale, cRef, cSw, cRSw, cAw, cMatch, cRun, cRMatch, cRRun, cMt, cMd] []) 6000 2 tmsMatches cMatches.rt) = ssMatches := by kernel_rfl

noncomputable def tmsTwo : List Tm := [entryTm Tryd.prog cTwo]
def ssTwo : List ST := [(.br (.bi .lt (.fn1 0 (.bi .add (.bi .rem (.var 0) (.lit 1000001)) (.bi .rem (.var 1) (.lit 1000001)))) (.bi .max (.fn1 0 (.bi .rem (.var 0) (.lit 1000001))) (.fn1 0 (.bi .rem (.var 1) (.lit 1000001)))))
   (.bad 402)
   (.br (.bi .lt (.un (.wrap .i64) (.bi .add (.un (.wrap .i64) (.bi .add (.fn1 0 (.bi .rem (.var 0) (.lit 1000001))) (.fn1 0 (.bi .rem (.var 1) (.lit 1000001))))) (.lit 1))) (.fn1 0 (.bi .add (.bi .rem (.var 0) (.lit 1000001)) (.bi .rem (.var 1) (.lit 1000001)))))
    (.bad 402)
    (.br (.bi .lt (.fn1 0 (.bi .rem (.var 0) (.lit 1000001))) (.lit 0))
     (.bad 402)
     (.br (.bi .lt (.lit 24) (.fn1 0 (.bi .add (.bi .rem (.var 0) (.lit 1000001)) (.bi .rem (.var 1) (.lit 1000001)))))
      (.bad 402)
      (.br (.bi .eq (.fn1 0 (.bi .sub (.lit 0) (.bi .rem (.var 0) (.lit 1000001)))) (.un (.wrap .i64) (.bi .sub (.lit 0) (.fn1 0 (.bi .rem (.var 0) (.lit 1000001))))))
       (.br (.bi .eq (.fn1 0 (.bi .sub (.bi .sub (.lit 0) (.bi .rem (.var 0) (.lit 1000001))) (.bi .rem (.var 1) (.lit 1000001)))) (.bi .sub (.lit 0) (.fn1 0 (.bi .add (.bi .rem (.var 0) (.lit 1000001)) (.bi .rem (.var 1) (.lit 1000001))))))
        (.br (.bi .le (.fn1 0 (.bi .sub (.bi .rem (.var 0) (.lit 1000001)) (.bi .rem (.var 1) (.lit 1000001)))) (.fn1 0 (.bi .rem (.var 0) (.lit 1000001))))
         (.br (.bi .le (.un (.wrap .i64) (.bi .sub (.lit 0) (.fn1 0 (.bi .rem (.var 1) (.lit 1000001))))) (.fn1 0 (.bi .sub (.bi .rem (.var 0) (.lit 1000001)) (.bi .rem (.var 1) (.lit 1000001)))))
          (.ret [])
          (.bad 402))
         (.bad 402))
        (.bad 402))
       (.bad 402))))))]
set_option maxRecDepth 100000 in
theorem sTwo : tmsTwo.map (summaryF (cx [cImp, cScale, cRef, cSw, cRSw, cAw, cMatch, cRun, cRMatch, cRRun, cMt, cMd] [6]) 6000 1 tmsTwo cTwo.rt) = ssTwo := by kernel_rfl

noncomputable def tmsLeast : List Tm := [entryTm Tryd.prog cLeast]
def ssLeast : List ST := [(.br (.bi .eq (.bi .rem (.var 0) (.lit 25)) (.lit 0))
   (.br (.un .not (.bi .eq (.fn1 0 (.lit 0)) (.bi .rem (.var 0) (.lit 25))))
    (.bad 402)
    (.br (.bi .lt (.fn1 0 (.bi .rem (.var 1) (.lit 1000001))) (.lit 0))
     (.bad 402)
     (.br (.bi .lt (.lit 24) (.fn1 0 (.bi .rem (.var 1) (.lit 1000001))))
      (.bad 402)
      (.br (.bi .eq (.fn1 0 (.bi .rem (.var 1) (.lit 1000001))) (.lit 0))
       (.br (.bi .lt (.bi .rem (.var 1) (.lit 1000001)) (.un (.tab scaleL) (.fn1 0 (.bi .rem (.var 1) (.lit 1000001)))))
        (.ret [])
        (.bad 402))
       (.need [(.bi .le (.lit 0) (.bi .add (.fn1 0 (.bi .rem (.var 1) (.lit 1000001))) (.lit (-1))))] (.br (.bi .lt (.bi .rem (.var 1) (.lit 1000001)) (.un (.tab scaleL) (.bi .add (.fn1 0 (.bi .rem (.var 1) (.lit 1000001))) (.lit (-1)))))
        (.bad 402)
        (.br (.bi .lt (.fn1 0 (.bi .rem (.var 1) (.lit 1000001))) (.lit 24))
         (.br (.bi .lt (.bi .rem (.var 1) (.lit 1000001)) (.un (.tab scaleL) (.fn1 0 (.bi .rem (.var 1) (.lit 1000001)))))
          (.ret [])
          (.bad 402))
         (.ret []))))))))
   (.need [(.bi .le (.lit 0) (.bi .add (.bi .rem (.var 0) (.lit 25)) (.lit (-1))))] (.br (.un .not (.bi .eq (.fn1 0 (.un (.tab scaleL) (.bi .add (.bi .rem (.var 0) (.lit 25)) (.lit (-1))))) (.bi .rem (.var 0) (.lit 25))))
    (.bad 402)
    (.br (.un .not (.bi .eq (.fn1 0 (.bi .add (.un (.tab scaleL) (.bi .add (.bi .rem (.var 0) (.lit 25)) (.lit (-1)))) (.lit (-1)))) (.bi .add (.bi .rem (.var 0) (.lit 25)) (.lit (-1)))))
     (.bad 402)
     (.br (.bi .lt (.fn1 0 (.bi .rem (.var 1) (.lit 1000001))) (.lit 0))
      (.bad 402)
      (.br (.bi .lt (.lit 24) (.fn1 0 (.bi .rem (.var 1) (.lit 1000001))))
       (.bad 402)
       (.br (.bi .eq (.fn1 0 (.bi .rem (.var 1) (.lit 1000001))) (.lit 0))
        (.br (.bi .lt (.bi .rem (.var 1) (.lit 1000001)) (.un (.tab scaleL) (.fn1 0 (.bi .rem (.var 1) (.lit 1000001)))))
         (.ret [])
         (.bad 402))
        (.need [(.bi .le (.lit 0) (.bi .add (.fn1 0 (.bi .rem (.var 1) (.lit 1000001))) (.lit (-1))))] (.br (.bi .lt (.bi .rem (.var 1) (.lit 1000001)) (.un (.tab scaleL) (.bi .add (.fn1 0 (.bi .rem (.var 1) (.lit 1000001))) (.lit (-1)))))
         (.bad 402)
         (.br (.bi .lt (.fn1 0 (.bi .rem (.var 1) (.lit 1000001))) (.lit 24))
          (.br (.bi .lt (.bi .rem (.var 1) (.lit 1000001)) (.un (.tab scaleL) (.fn1 0 (.bi .rem (.var 1) (.lit 1000001)))))
           (.ret [])
           (.bad 402))
          (.ret [])))))))))))]
set_option maxRecDepth 100000 in
theorem sLeast : tmsLeast.map (summaryF (cx [cImp, cScale, cRef, cSw, cRSw, cAw, cMatch, cRun, cRMatch, cRRun, cMt, cMd] [7]) 6000 1 tmsLeast cLeast.rt) = ssLeast := by kernel_rfl

noncomputable def tmsTeams : List Tm := [entryTm Tryd.prog cTeams,
  ⟨⟨⟨8, tl 169 [(3, (.slice 2 2 (.lit 0) (.un .len (.fn1 5 (.bi .take (.var 0) (.un .len (.var 0))))) none)), (4, (.slice 3 2 (.lit 0) (.un .len (.var 1)) none)), (5, (.slice 4 2 (.lit 0) (.un .len (.var 2)) none)), (26, (.slice 2 2 (.lit 0) (.un .len (.fn1 5 (.bi .take (.var 0) (.un .len (.var 0))))) none)), (27, (.int .i64 (.un .len (.fn1 5 (.bi .take (.var 0) (.un .len (.var 0))))))), (28, (.int .i64 (.var 3)))], [.at [0, 0, 1, 0, 1, 1, 1], .lp [0, 1, 0, 1, 1, 1], .blk 0, .at [1, 1, 1, 1]], [], none⟩, [], [(.rows true [(.int .i64)] GA), (.rows true [(.int .u32)] (.var 0)), (.rows false [(.int .i64), (.int .i64)] (.fn1 5 (.bi .take (.var 0) (.un .len (.var 0))))), (.rows false [(.int .i64), (.int .i64)] (.var 1)), (.rows false [(.int .i64), (.int .i64)] (.var 2))]⟩, 4, [(.bi .eq (.un .len (.var 1)) (.un .len (.var 2))), (.te .elems (.var 0) (.lit 0) (.lit 4294967295))]⟩,
  ⟨⟨⟨8, tl 169 [(8, (.int .i64 (.fn1 2 (.bi .take (.fn1 5 (.bi .take (.var 0) (.un .len (.var 0)))) (.un .len (.fn1 5 (.bi .take (.var 0) (.un .len (.var 0))))))))), (9, (.int .i64 (.fn1 3 (.bi .take (.fn1 5 (.bi .take (.var 0) (.un .len (.var 0)))) (.un .len (.fn1 5 (.bi .take (.var 0) (.un .len (.var 0))))))))), (17, (.slice 2 1 (.lit 0) (.un .len (.fn1 4 (.bi .take (.fn1 5 (.bi .take (.var 0) (.un .len (.var 0)))) (.un .len (.fn1 5 (.bi .take (.var 0) (.un .len (.var 0)))))))) none)), (19, (.int .i64 (.var 1))), (125, (.slice 3 2 (.lit 0) (.un .len (.fn1 5 (.bi .take (.var 0) (.un .len (.var 0))))) none)), (126, (.int .i64 (.un .len (.fn1 5 (.bi .take (.var 0) (.un .len (.var 0))))))), (127, (.int .i64 (.var 2)))], [.at [0, 0, 1, 0, 1, 1, 1, 1, 1, 1, 1, 1, 1, 1], .lp [0, 1, 0, 1, 1, 1, 1, 1, 1, 1, 1, 1, 1], .blk 2, .at [1, 1, 1, 1, 1, 1, 1, 1, 1, 1, 1]], [], none⟩, [], [(.rows true [(.int .i64)] GA), (.rows true [(.int .u32)] (.var 0)), (.rows false [(.int .i64)] (.fn1 4 (.bi .take (.fn1 5 (.bi .take (.var 0) (.un .len (.var 0)))) (.un .len (.fn1 5 (.bi .take (.var 0) (.un .len (.var 0)))))))), (.rows false [(.int .i64), (.int .i64)] (.fn1 5 (.bi .take (.var 0) (.un .len (.var 0)))))]⟩, 3, [(.bi .eq (.un .len (.fn1 4 (.bi .take (.fn1 5 (.bi .take (.var 0) (.un .len (.var 0)))) (.un .len (.fn1 5 (.bi .take (.var 0) (.un .len (.var 0)))))))) (.un .len (.fn1 5 (.bi .take (.var 0) (.un .len (.var 0)))))), (.bi .le (.lit 0) (.fn1 3 (.bi .take (.fn1 5 (.bi .take (.var 0) (.un .len (.var 0)))) (.un .len (.fn1 5 (.bi .take (.var 0) (.un .len (.var 0)))))))), (.bi .le (.lit 0) (.fn1 2 (.bi .take (.fn1 5 (.bi .take (.var 0) (.un .len (.var 0)))) (.un .len (.fn1 5 (.bi .take (.var 0) (.un .len (.var 0)))))))), (.bi .eq (.fn1 1 (.bi .take (.fn1 5 (.bi .take (.var 0) (.un .len (.var 0)))) (.un .len (.fn1 5 (.bi .take (.var 0) (.un .len (.var 0))))))) (.lit 0)), (.te .elems (.var 0) (.lit 0) (.lit 4294967295))]⟩]
def ssTeams : List ST := [(.goto 1 [(.var 0), .nil, .nil, (.lit 0)]),
  (.br (.bi .lt (.var 3) (.un .len (.fn1 5 (.bi .take (.var 0) (.un .len (.var 0))))))
   (.need [(.bi .le (.lit 0) (.var 3))] (.need [(.bi .le (.bi .add (.un .len (.var 1)) (.lit 1)) (.lit 8278675785607))] (.need [(.bi .le (.lit 0) (.un (.wrap .i64) (.bi .sub (.un (.wrap .i64) (.bi .add (.un .len (.fn1 5 (.bi .take (.var 0) (.un .len (.var 0))))) (.lit (-1)))) (.var 3)))), (.bi .lt (.un (.wrap .i64) (.bi .sub (.un (.wrap .i64) (.bi .add (.un .len (.fn1 5 (.bi .take (.var 0) (.un .len (.var 0))))) (.lit (-1)))) (.var 3))) (.un .len (.fn1 5 (.bi .take (.var 0) (.un .len (.var 0))))))] (.goto 1 [(.var 0), (.bi .snoc (.var 1) (.bi .cons (.te .get (.fn1 5 (.bi .take (.var 0) (.un .len (.var 0)))) (.var 3) (.lit 1)) (.bi .cons (.te .get (.fn1 5 (.bi .take (.var 0) (.un .len (.var 0)))) (.var 3) (.lit 0)) .nil))), (.bi .snoc (.var 2) (.bi .cons (.te .get (.fn1 5 (.bi .take (.var 0) (.un .len (.var 0)))) (.un (.wrap .i64) (.bi .sub (.un (.wrap .i64) (.bi .add (.un .len (.fn1 5 (.bi .take (.var 0) (.un .len (.var 0))))) (.lit (-1)))) (.var 3))) (.lit 0)) (.bi .cons (.te .get (.fn1 5 (.bi .take (.var 0) (.un .len (.var 0)))) (.un (.wrap .i64) (.bi .sub (.un (.wrap .i64) (.bi .add (.un .len (.fn1 5 (.bi .take (.var 0) (.un .len (.var 0))))) (.lit (-1)))) (.var 3))) (.lit 1)) .nil))), (.un (.wrap .i64) (.bi .add (.var 3) (.lit 1)))]))))
   (.br (.un .not (.bi .eq (.fn1 1 (.bi .take (.fn1 5 (.bi .take (.var 0) (.un .len (.var 0)))) (.un .len (.fn1 5 (.bi .take (.var 0) (.un .len (.var 0))))))) (.lit 0)))
    (.bad 402)
    (.br (.un .not (.bi .eq (.fn1 1 (.bi .take (.var 1) (.un .len (.var 1)))) (.lit 0)))
     (.bad 402)
     (.br (.un .not (.bi .eq (.fn1 1 (.bi .take (.var 2) (.un .len (.var 2)))) (.lit 0)))
      (.bad 402)
      (.br (.un .not (.bi .eq (.fn1 2 (.bi .take (.fn1 5 (.bi .take (.var 0) (.un .len (.var 0)))) (.un .len (.fn1 5 (.bi .take (.var 0) (.un .len (.var 0))))))) (.fn1 3 (.bi .take (.var 1) (.un .len (.var 1))))))
       (.bad 402)
       (.br (.un .not (.bi .eq (.fn1 3 (.bi .take (.fn1 5 (.bi .take (.var 0) (.un .len (.var 0)))) (.un .len (.fn1 5 (.bi .take (.var 0) (.un .len (.var 0))))))) (.fn1 2 (.bi .take (.var 1) (.un .len (.var 1))))))
        (.bad 402)
        (.br (.un .not (.bi .eq (.fn1 2 (.bi .take (.fn1 5 (.bi .take (.var 0) (.un .len (.var 0)))) (.un .len (.fn1 5 (.bi .take (.var 0) (.un .len (.var 0))))))) (.fn1 2 (.bi .take (.var 2) (.un .len (.var 2))))))
         (.bad 402)
         (.br (.un .not (.bi .eq (.fn1 3 (.bi .take (.fn1 5 (.bi .take (.var 0) (.un .len (.var 0)))) (.un .len (.fn1 5 (.bi .take (.var 0) (.un .len (.var 0))))))) (.fn1 3 (.bi .take (.var 2) (.un .len (.var 2))))))
          (.bad 402)
          (.br (.bi .lt (.fn1 2 (.bi .take (.fn1 5 (.bi .take (.var 0) (.un .len (.var 0)))) (.un .len (.fn1 5 (.bi .take (.var 0) (.un .len (.var 0))))))) (.lit 0))
           (.bad 402)
           (.br (.bi .lt (.fn1 3 (.bi .take (.fn1 5 (.bi .take (.var 0) (.un .len (.var 0)))) (.un .len (.fn1 5 (.bi .take (.var 0) (.un .len (.var 0))))))) (.lit 0))
            (.bad 402)
            (.br (.un .not (.bi .eq (.un .len (.fn1 4 (.bi .take (.fn1 5 (.bi .take (.var 0) (.un .len (.var 0)))) (.un .len (.fn1 5 (.bi .take (.var 0) (.un .len (.var 0)))))))) (.un .len (.fn1 5 (.bi .take (.var 0) (.un .len (.var 0)))))))
             (.bad 402)
             (.goto 2 [(.var 0), (.lit 0), (.lit 0)])))))))))))),
  (.br (.bi .lt (.var 2) (.un .len (.fn1 5 (.bi .take (.var 0) (.un .len (.var 0))))))
   (.need [(.bi .le (.lit 0) (.var 2))] (.br (.un .not (.bi .eq (.fn2 2 (.te .get (.fn1 5 (.bi .take (.var 0) (.un .len (.var 0)))) (.var 2) (.lit 0)) (.te .get (.fn1 5 (.bi .take (.var 0) (.un .len (.var 0)))) (.var 2) (.lit 1))) (.lit 0)))
    (.bad 402)
    (.br (.un .not (.bi .eq (.te .get (.fn1 4 (.bi .take (.fn1 5 (.bi .take (.var 0) (.un .len (.var 0)))) (.un .len (.fn1 5 (.bi .take (.var 0) (.un .len (.var 0))))))) (.var 2) (.lit 0)) (.un (.wrap .i64) (.bi .add (.var 1) (.fn2 1 (.te .get (.fn1 5 (.bi .take (.var 0) (.un .len (.var 0)))) (.var 2) (.lit 0)) (.te .get (.fn1 5 (.bi .take (.var 0) (.un .len (.var 0)))) (.var 2) (.lit 1)))))))
     (.bad 402)
     (.br (.un .not (.bi .eq (.fn2 1 (.te .get (.fn1 5 (.bi .take (.var 0) (.un .len (.var 0)))) (.var 2) (.lit 0)) (.te .get (.fn1 5 (.bi .take (.var 0) (.un .len (.var 0)))) (.var 2) (.lit 1))) (.fn1 0 (.un (.wrap .i64) (.bi .sub (.te .get (.fn1 5 (.bi .take (.var 0) (.un .len (.var 0)))) (.var 2) (.lit 0)) (.te .get (.fn1 5 (.bi .take (.var 0) (.un .len (.var 0)))) (.var 2) (.lit 1)))))))
      (.bad 402)
      (.goto 2 [(.var 0), (.un (.wrap .i64) (.bi .add (.var 1) (.fn2 1 (.te .get (.fn1 5 (.bi .take (.var 0) (.un .len (.var 0)))) (.var 2) (.lit 0)) (.te .get (.fn1 5 (.bi .take (.var 0) (.un .len (.var 0)))) (.var 2) (.lit 1))))), (.un (.wrap .i64) (.bi .add (.var 2) (.lit 1)))])))))
   (.br (.bi .eq (.var 1) (.un (.wrap .i64) (.bi .sub (.fn1 2 (.bi .take (.fn1 5 (.bi .take (.var 0) (.un .len (.var 0)))) (.un .len (.fn1 5 (.bi .take (.var 0) (.un .len (.var 0))))))) (.fn1 3 (.bi .take (.fn1 5 (.bi .take (.var 0) (.un .len (.var 0)))) (.un .len (.fn1 5 (.bi .take (.var 0) (.un .len (.var 0))))))))))
    (.ret [])
    (.bad 402)))]
set_option maxRecDepth 100000 in
theorem sTeams : tmsTeams.map (summaryF (cx [cImp, cScale, cRef, cSw, cRSw, cAw, cMatch, cRun, cRMatch, cRRun, cMt, cMd] [8]) 6000 2 tmsTeams cTeams.rt) = ssTeams := by kernel_rfl

noncomputable def tmsParts : List Tm := [entryTm Tryd.prog cParts]
def ssParts : List ST := [(.need [(.bi .le (.bi .min (.un .len (.var 0)) (.lit 64)) (.un .len (.var 0))), (.bi .le (.bi .min (.un .len (.var 0)) (.lit 64)) (.un .len (.var 0))), (.bi .le (.bi .min (.un .len (.var 1)) (.lit 64)) (.un .len (.var 1))), (.bi .le (.bi .min (.un .len (.var 1)) (.lit 64)) (.un .len (.var 1)))] (.need [(.bi .le (.un .len (.fn1 5 (.bi .take (.var 0) (.bi .min (.un .len (.var 0)) (.lit 64))))) (.lit 8278675785607))] (.need [(.bi .le (.bi .add (.un .len (.fn1 5 (.bi .take (.var 0) (.bi .min (.un .len (.var 0)) (.lit 64))))) (.un .len (.fn1 5 (.bi .take (.var 1) (.bi .min (.un .len (.var 1)) (.lit 64)))))) (.lit 8278675785607))] (.need [(.bi .le (.bi .add (.un .len (.fn1 5 (.bi .take (.var 0) (.bi .min (.un .len (.var 0)) (.lit 64))))) (.un .len (.fn1 5 (.bi .take (.var 1) (.bi .min (.un .len (.var 1)) (.lit 64)))))) (.un .len (.bi .app (.fn1 5 (.bi .take (.var 0) (.bi .min (.un .len (.var 0)) (.lit 64)))) (.fn1 5 (.bi .take (.var 1) (.bi .min (.un .len (.var 1)) (.lit 64)))))))] (.br (.bi .eq (.fn1 1 (.bi .take (.fn1 5 (.bi .take (.var 0) (.bi .min (.un .len (.var 0)) (.lit 64)))) (.un .len (.fn1 5 (.bi .take (.var 0) (.bi .min (.un .len (.var 0)) (.lit 64))))))) (.lit 0))
   (.br (.bi .eq (.fn1 1 (.bi .take (.fn1 5 (.bi .take (.var 1) (.bi .min (.un .len (.var 1)) (.lit 64)))) (.un .len (.fn1 5 (.bi .take (.var 1) (.bi .min (.un .len (.var 1)) (.lit 64))))))) (.lit 0))
    (.br (.bi .eq (.fn1 1 (.bi .take (.bi .app (.fn1 5 (.bi .take (.var 0) (.bi .min (.un .len (.var 0)) (.lit 64)))) (.fn1 5 (.bi .take (.var 1) (.bi .min (.un .len (.var 1)) (.lit 64))))) (.bi .add (.un .len (.fn1 5 (.bi .take (.var 0) (.bi .min (.un .len (.var 0)) (.lit 64))))) (.un .len (.fn1 5 (.bi .take (.var 1) (.bi .min (.un .len (.var 1)) (.lit 64)))))))) (.lit 0))
     (.br (.bi .eq (.fn1 2 (.bi .take (.bi .app (.fn1 5 (.bi .take (.var 0) (.bi .min (.un .len (.var 0)) (.lit 64)))) (.fn1 5 (.bi .take (.var 1) (.bi .min (.un .len (.var 1)) (.lit 64))))) (.bi .add (.un .len (.fn1 5 (.bi .take (.var 0) (.bi .min (.un .len (.var 0)) (.lit 64))))) (.un .len (.fn1 5 (.bi .take (.var 1) (.bi .min (.un .len (.var 1)) (.lit 64)))))))) (.un (.wrap .i64) (.bi .add (.fn1 2 (.bi .take (.fn1 5 (.bi .take (.var 0) (.bi .min (.un .len (.var 0)) (.lit 64)))) (.un .len (.fn1 5 (.bi .take (.var 0) (.bi .min (.un .len (.var 0)) (.lit 64))))))) (.fn1 2 (.bi .take (.fn1 5 (.bi .take (.var 1) (.bi .min (.un .len (.var 1)) (.lit 64)))) (.un .len (.fn1 5 (.bi .take (.var 1) (.bi .min (.un .len (.var 1)) (.lit 64))))))))))
      (.br (.bi .eq (.fn1 3 (.bi .take (.bi .app (.fn1 5 (.bi .take (.var 0) (.bi .min (.un .len (.var 0)) (.lit 64)))) (.fn1 5 (.bi .take (.var 1) (.bi .min (.un .len (.var 1)) (.lit 64))))) (.bi .add (.un .len (.fn1 5 (.bi .take (.var 0) (.bi .min (.un .len (.var 0)) (.lit 64))))) (.un .len (.fn1 5 (.bi .take (.var 1) (.bi .min (.un .len (.var 1)) (.lit 64)))))))) (.un (.wrap .i64) (.bi .add (.fn1 3 (.bi .take (.fn1 5 (.bi .take (.var 0) (.bi .min (.un .len (.var 0)) (.lit 64)))) (.un .len (.fn1 5 (.bi .take (.var 0) (.bi .min (.un .len (.var 0)) (.lit 64))))))) (.fn1 3 (.bi .take (.fn1 5 (.bi .take (.var 1) (.bi .min (.un .len (.var 1)) (.lit 64)))) (.un .len (.fn1 5 (.bi .take (.var 1) (.bi .min (.un .len (.var 1)) (.lit 64))))))))))
       (.ret [])
       (.bad 402))
      (.bad 402))
     (.bad 402))
    (.bad 402))
   (.bad 402))))))]
set_option maxRecDepth 100000 in
theorem sParts : tmsParts.map (summaryF (cx [cImp, cScale, cRef, cSw, cRSw, cAw, cMatch, cRun, cRMatch, cRRun, cMt, cMd] [9]) 6000 3 tmsParts cParts.rt) = ssParts := by kernel_rfl

noncomputable def tmsSmall : List Tm := [entryTm Tryd.prog cSmall,
  ⟨⟨⟨5, tl 132 [(1, (.int .i64 (.var 0)))], [.at [0, 0, 1, 0, 1], .lp [0, 1, 0, 1], .blk 0, .at [1, 1]], [], none⟩, [], [(.rows true [(.int .i64)] GA)]⟩, 1, [(.bi .le (.var 0) (.lit 4201)), (.bi .le (.lit (-4200)) (.var 0))]⟩,
  ⟨⟨⟨5, tl 132 [(2, (.int .i64 (.var 0)))], [.at [0, 0, 1, 0, 1, 1], .lp [0, 1, 0, 1, 1], .blk 2, .at [1, 1, 1]], [], none⟩, [], [(.rows true [(.int .i64)] GA)]⟩, 1, []⟩,
  ⟨⟨⟨5, tl 132 [(49, (.slice 1 1 (.lit 0) (.lit 9) (some (.lit 9)))), (50, (.int .i64 (.lit 9))), (51, (.int .i64 (.var 0)))], [.at [0, 0, 1, 0, 1, 1, 1], .lp [0, 1, 0, 1, 1, 1], .blk 4, .at [1, 1, 1, 1]], [], none⟩, [], [(.rows true [(.int .i64)] GA), (.cells false [(.int .i64 (.lit (-7601))), (.int .i64 (.lit (-7600))), (.int .i64 (.lit (-10))), (.int .i64 (.lit 0)), (.int .i64 (.lit 90)), (.int .i64 (.lit 7600)), (.int .i64 (.lit 7601)), (.int .i64 (.lit 9223372036854775807)), (.int .i64 (.lit (-9223372036854775808)))])]⟩, 1, [(.bi .le (.lit 0) (.var 0)), (.bi .le (.var 0) (.lit 9))]⟩,
  ⟨⟨⟨5, tl 132 [(8, (.int .i64 (.var 1))), (49, (.slice 1 1 (.lit 0) (.lit 9) (some (.lit 9)))), (50, (.int .i64 (.lit 9))), (51, (.int .i64 (.var 2))), (55, (.slice 2 1 (.lit 0) (.lit 9) (some (.lit 9)))), (56, (.int .i64 (.lit 9))), (57, (.int .i64 (.var 0)))], [.at [0, 0, 1, 0, 1, 0, 0, 1, 1, 0, 0, 1, 0, 1, 1, 1], .lp [0, 1, 0, 1, 0, 0, 1, 1, 0, 0, 1, 0, 1, 1, 1], .blk 6, .at [1, 1, 0, 0, 1, 1, 0, 0, 1, 0, 1, 1, 1], .blk 5, .at [1, 1, 1, 0, 0, 1, 0, 1, 1, 1], .lp [0, 1, 0, 1, 1, 1], .blk 4, .at [1, 1, 1, 1]], [], none⟩, [], [(.rows true [(.int .i64)] GA), (.cells false [(.int .i64 (.lit (-7601))), (.int .i64 (.lit (-7600))), (.int .i64 (.lit (-10))), (.int .i64 (.lit 0)), (.int .i64 (.lit 90)), (.int .i64 (.lit 7600)), (.int .i64 (.lit 7601)), (.int .i64 (.lit 9223372036854775807)), (.int .i64 (.lit (-9223372036854775808)))]), (.cells false [(.int .i64 (.lit (-7601))), (.int .i64 (.lit (-7600))), (.int .i64 (.lit (-10))), (.int .i64 (.lit 0)), (.int .i64 (.lit 90)), (.int .i64 (.lit 7600)), (.int .i64 (.lit 7601)), (.int .i64 (.lit 9223372036854775807)), (.int .i64 (.lit (-9223372036854775808)))])]⟩, 3, [(.bi .le (.lit 0) (.var 0)), (.bi .le (.var 0) (.lit 9)), (.bi .le (.lit 0) (.var 2)), (.bi .lt (.var 2) (.lit 9))]⟩,
  ⟨⟨⟨5, tl 132 [(15, (.int .i64 (.var 0)))], [.at [0, 0, 1, 0, 1, 1, 1, 1], .lp [0, 1, 0, 1, 1, 1, 1], .blk 8, .at [1, 1, 1, 1, 1]], [], none⟩, [], [(.rows true [(.int .i64)] GA)]⟩, 1, [(.bi .le (.lit 126) (.var 0))]⟩,
  ⟨⟨⟨5, tl 132 [(15, (.int .i64 (.var 1))), (16, (.slice 1 2 (.lit 0) (.var 1) none)), (106, (.int .i64 (.var 1))), (107, (.int .i64 (.var 0)))], [.at [0, 0, 1, 0, 1, 0, 0, 1, 0, 0, 1, 0, 1, 1, 1, 1], .lp [0, 1, 0, 1, 0, 0, 1, 0, 0, 1, 0, 1, 1, 1, 1], .blk 10, .at [1, 1, 0, 0, 1, 0, 0, 1, 0, 1, 1, 1, 1], .blk 9, .at [1, 1, 0, 0, 1, 0, 1, 1, 1, 1], .lp [0, 1, 0, 1, 1, 1, 1], .blk 8, .at [1, 1, 1, 1, 1]], [], none⟩, [], [(.rows true [(.int .i64)] GA), (.rows false [(.int .i64), (.int .i64)] (.var 2))]⟩, 3, [(.bi .le (.lit 0) (.var 0)), (.bi .le (.var 0) (.var 1)), (.bi .eq (.un .len (.var 2)) (.var 1)), (.bi .le (.var 1) (.lit 131)), (.bi .le (.lit 126) (.var 1))]⟩]
def ssSmall : List ST := [(.goto 1 [(.lit (-4200))]),
  (.br (.bi .le (.var 0) (.lit 4200))
   (.goto 1 [(.bi .add (.var 0) (.lit 1))])
   (.goto 2 [(.lit (-2))])),
  (.br (.bi .lt (.var 0) (.lit 28))
   (.br (.bi .lt (.var 0) (.lit 0))
    (.goto 2 [(.un (.wrap .i64) (.bi .add (.var 0) (.lit 1)))])
    (.br (.bi .lt (.lit 24) (.var 0))
     (.goto 2 [(.bi .add (.var 0) (.lit 1))])
     (.br (.bi .eq (.var 0) (.lit 0))
      (.goto 2 [(.bi .add (.var 0) (.lit 1))])
      (.need [(.bi .le (.lit 0) (.bi .add (.var 0) (.lit (-1))))] (.goto 2 [(.bi .add (.var 0) (.lit 1))])))))
   (.goto 3 [(.lit 0)])),
  (.br (.bi .lt (.var 0) (.lit 9))
   (.goto 4 [(.lit 0), (.un (.tab [(-7601), (-7600), (-10), 0, 90, 7600, 7601, 9223372036854775807, (-9223372036854775808)]) (.var 0)), (.var 0)])
   (.goto 5 [(.lit 126)])),
  (.br (.bi .lt (.var 0) (.lit 9))
   (.need [(.bi .le (.un .len (.bi .row (.bi .cons (.lit 100) (.bi .cons (.lit 0) .nil)) (.bi .row (.bi .cons (.var 1) (.bi .cons (.un (.tab [(-7601), (-7600), (-10), 0, 90, 7600, 7601, 9223372036854775807, (-9223372036854775808)]) (.var 0)) .nil)) (.bi .row (.bi .cons (.lit 0) (.bi .cons (.lit 100) .nil)) .nil)))) (.lit 200))] (.goto 4 [(.bi .add (.var 0) (.lit 1)), (.var 1), (.var 2)]))
   (.goto 3 [(.bi .add (.var 2) (.lit 1))])),
  (.br (.bi .lt (.var 0) (.lit 131))
   (.goto 6 [(.lit 0), (.var 0), (.bi .rep (.var 0) (.bi .cons (.lit 0) (.bi .cons (.lit 0) .nil)))])
   (.ret [])),
  (.br (.bi .lt (.var 0) (.var 1))
   (.goto 6 [(.bi .add (.var 0) (.lit 1)), (.var 1), (.se (.se (.var 2) (.var 0) (.lit 0) (.bi .add (.bi .mul (.lit 37) (.var 0)) (.lit (-2000)))) (.var 0) (.lit 1) (.bi .mul (.lit 11) (.var 0)))])
   (.need [(.bi .le (.un .len (.se (.var 2) (.bi .add (.var 1) (.lit (-1))) (.lit 0) (.lit 8000))) (.lit 200))] (.goto 5 [(.bi .add (.var 1) (.lit 1))])))]
set_option maxRecDepth 100000 in
theorem sSmall : tmsSmall.map (summaryF (cx [cImp, cScale, cRef, cSw, cRSw, cAw, cMatch, cRun, cRMatch, cRRun, cMt, cMd] [5]) 6000 1 tmsSmall cSmall.rt) = ssSmall := by kernel_rfl

end Go.Proofs.YtmncmboeddlcmaaDoor
