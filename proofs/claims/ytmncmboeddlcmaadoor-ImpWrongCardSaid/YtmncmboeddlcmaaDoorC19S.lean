/- Chapter 19: the summaries of its functions, as the kernel reckons them. -/
import Derived.Test.YtmncmboeddlcmaaDoorC19Defs
import Derived.Test.YtmncmboeddlcmaaDoorProg
namespace Go.Proofs.YtmncmboeddlcmaaDoor
open Go Go.Sx Go.Proofs.C19

noncomputable def cx (ctrs : List Ctr) (fs : List Nat) : Ctx := { P := Tryd.prog, gl := [(0, 0)], ng := 1, ctrs, heads := fs.flatMap fun f => (loopPaths (bodyOf Tryd.prog f) []).map fun p => (f, p) }

theorem glIn (ctrs : List Ctr) (fs : List Nat) : GlIn (cx ctrs fs).gl (cx ctrs fs).ng := by
  intro g h hh
  simp only [cx, List.mem_singleton, Prod.mk.injEq] at hh
  show h < 1
  omega

theorem re {I : Itp} {c : Ctr} {ctrs ctrs' : List Ctr} {fs fs' : List Nat} (h : c.Valid (cx ctrs fs) I) : c.Valid (cx ctrs' fs') I := ⟨h.has, h.wf, h.run⟩

noncomputable def tmsScale : List Tm := [entryTm Tryd.prog cScale]
def ssScale : List ST := [(.ret [])]
set_option maxRecDepth 100000 in
theorem sScale : tmsScale.map (summaryF (cx [] []) 6000 1 tmsScale cScale.rt) = ssScale := by kernel_rfl

noncomputable def tmsImp : List Tm := [entryTm Tryd.prog cImp,
  ⟨⟨⟨15, tl 25 [(0, (.int .i64 (.var 0))), (3, (.int .i64 (.var 1))), (6, (.agg [(.int .i64 (.lit 20)), (.int .i64 (.lit 50)), (.int .i64 (.lit 90)), (.int .i64 (.lit 130)), (.int .i64 (.lit 170)), (.int .i64 (.lit 220)), (.int .i64 (.lit 270)), (.int .i64 (.lit 320)), (.int .i64 (.lit 370)), (.int .i64 (.lit 430)), (.int .i64 (.lit 500)), (.int .i64 (.lit 600)), (.int .i64 (.lit 750)), (.int .i64 (.lit 900)), (.int .i64 (.lit 1100)), (.int .i64 (.lit 1300)), (.int .i64 (.lit 1500)), (.int .i64 (.lit 1750)), (.int .i64 (.lit 2000)), (.int .i64 (.lit 2250)), (.int .i64 (.lit 2500)), (.int .i64 (.lit 3000)), (.int .i64 (.lit 3500)), (.int .i64 (.lit 4000))])), (7, (.int .i64 (.var 2)))], [.at [0, 0, 1, 0, 1, 1], .lp [0, 1, 0, 1, 1], .blk 0, .at [1, 1, 1]], [], none⟩, [], [(.rows true [(.int .i64)] GA)]⟩, 3, [(.bi .le (.lit (-24)) (.var 1)), (.bi .le (.var 1) (.lit 24)), (.bi .le (.lit 0) (.var 2)), (.bi .le (.var 2) (.lit 24))]⟩]
def ssImp : List ST := [(.goto 1 [(.var 0), (.lit 0), (.lit 0)]),
  (.br (.bi .lt (.var 2) (.lit 24))
   (.br (.bi .le (.un (.tab scaleL) (.var 2)) (.var 0))
    (.goto 1 [(.var 0), (.bi .add (.var 1) (.lit 1)), (.bi .add (.var 2) (.lit 1))])
    (.br (.bi .le (.var 0) (.bi .sub (.lit 0) (.un (.tab scaleL) (.var 2))))
     (.goto 1 [(.var 0), (.bi .add (.var 1) (.lit (-1))), (.bi .add (.var 2) (.lit 1))])
     (.goto 1 [(.var 0), (.var 1), (.bi .add (.var 2) (.lit 1))])))
   (.ret [(.var 1)]))]
set_option maxRecDepth 100000 in
theorem sImp : tmsImp.map (summaryF (cx [] [15]) 6000 1 tmsImp cImp.rt) = ssImp := by kernel_rfl

noncomputable def tmsRefP : List Tm := [entryTm Tryd.prog cRefP,
  ⟨⟨⟨16, tl 29 [(0, (.int .i64 (.var 0))), (3, (.slice 1 1 (.lit 0) (.lit 24) none)), (4, (.int .i64 (.var 1)))], [.at [0, 0, 0, 1, 1, 1, 1], .lp [0, 0, 1, 1, 1, 1], .blk 0, .at [1, 1, 1, 1, 1]], [], none⟩, [], [.dead, (.cells false [(.int .i64 (.lit 20)), (.int .i64 (.lit 50)), (.int .i64 (.lit 90)), (.int .i64 (.lit 130)), (.int .i64 (.lit 170)), (.int .i64 (.lit 220)), (.int .i64 (.lit 270)), (.int .i64 (.lit 320)), (.int .i64 (.lit 370)), (.int .i64 (.lit 430)), (.int .i64 (.lit 500)), (.int .i64 (.lit 600)), (.int .i64 (.lit 750)), (.int .i64 (.lit 900)), (.int .i64 (.lit 1100)), (.int .i64 (.lit 1300)), (.int .i64 (.lit 1500)), (.int .i64 (.lit 1750)), (.int .i64 (.lit 2000)), (.int .i64 (.lit 2250)), (.int .i64 (.lit 2500)), (.int .i64 (.lit 3000)), (.int .i64 (.lit 3500)), (.int .i64 (.lit 4000))])]⟩, 2, [(.bi .le (.lit 0) (.var 0)), (.bi .le (.lit 0) (.var 1)), (.bi .le (.var 1) (.lit 24))]⟩]
def ssRefP : List ST := [(.goto 1 [(.var 0), (.lit 0)]),
  (.br (.bi .lt (.var 1) (.lit 24))
   (.br (.bi .le (.un (.tab scaleL) (.var 1)) (.var 0))
    (.goto 1 [(.var 0), (.bi .add (.var 1) (.lit 1))])
    (.ret [(.var 1)]))
   (.ret [(.var 1)]))]
set_option maxRecDepth 100000 in
theorem sRefP : tmsRefP.map (summaryF (cx [cScale] [16]) 6000 1 tmsRefP cRefP.rt) = ssRefP := by kernel_rfl

noncomputable def tmsRef : List Tm := [entryTm Tryd.prog cRef,
  ⟨⟨⟨16, tl 29 [(0, (.int .i64 (.var 0))), (3, (.slice 1 1 (.lit 0) (.lit 24) none)), (4, (.int .i64 (.var 1)))], [.at [0, 0, 0, 1, 1, 1, 1], .lp [0, 0, 1, 1, 1, 1], .blk 0, .at [1, 1, 1, 1, 1]], [], none⟩, [], [.dead, (.cells false [(.int .i64 (.lit 20)), (.int .i64 (.lit 50)), (.int .i64 (.lit 90)), (.int .i64 (.lit 130)), (.int .i64 (.lit 170)), (.int .i64 (.lit 220)), (.int .i64 (.lit 270)), (.int .i64 (.lit 320)), (.int .i64 (.lit 370)), (.int .i64 (.lit 430)), (.int .i64 (.lit 500)), (.int .i64 (.lit 600)), (.int .i64 (.lit 750)), (.int .i64 (.lit 900)), (.int .i64 (.lit 1100)), (.int .i64 (.lit 1300)), (.int .i64 (.lit 1500)), (.int .i64 (.lit 1750)), (.int .i64 (.lit 2000)), (.int .i64 (.lit 2250)), (.int .i64 (.lit 2500)), (.int .i64 (.lit 3000)), (.int .i64 (.lit 3500)), (.int .i64 (.lit 4000))])]⟩, 2, [(.bi .le (.lit 0) (.var 0)), (.bi .le (.lit 0) (.var 1)), (.bi .le (.var 1) (.lit 24))]⟩]
def ssRef : List ST := [(.br (.bi .lt (.var 0) (.lit 0))
   (.br (.bi .lt (.var 0) (.lit (-4000)))
    (.ret [(.un (.wrap .i64) (.bi .sub (.lit 0) (.fn1 0 (.lit 4000))))])
    (.ret [(.un (.wrap .i64) (.bi .sub (.lit 0) (.fn1 0 (.bi .sub (.lit 0) (.var 0)))))]))
   (.goto 1 [(.var 0), (.lit 0)])),
  (.br (.bi .lt (.var 1) (.lit 24))
   (.br (.bi .le (.un (.tab scaleL) (.var 1)) (.var 0))
    (.goto 1 [(.var 0), (.bi .add (.var 1) (.lit 1))])
    (.ret [(.var 1)]))
   (.ret [(.var 1)]))]
set_option maxRecDepth 100000 in
theorem sRef : tmsRef.map (summaryF (cx [cScale, cRefP] [16]) 6000 1 tmsRef cRef.rt) = ssRef := by kernel_rfl

noncomputable def tmsSw : List Tm := [entryTm Tryd.prog cSw]
def ssSw : List ST := [(.br (.bi .le (.lit (-7600)) (.bi .min (.var 0) (.var 1)))
   (.br (.bi .lt (.lit 7600) (.bi .max (.var 0) (.var 1)))
    (.ret [(.lit 0), (.lit 190)])
    (.ret [(.fn1 0 (.un (.wrap .i64) (.bi .sub (.var 0) (.var 1)))), (.lit 0)]))
   (.ret [(.lit 0), (.lit 190)]))]
set_option maxRecDepth 100000 in
theorem sSw : tmsSw.map (summaryF (cx [cImp] []) 6000 1 tmsSw cSw.rt) = ssSw := by kernel_rfl

noncomputable def tmsRSw : List Tm := [entryTm Tryd.prog cRSw]
def ssRSw : List ST := [(.br (.bi .lt (.var 0) (.lit (-7600)))
   (.ret [(.lit 0), (.lit 190)])
   (.br (.bi .lt (.lit 7600) (.var 0))
    (.ret [(.lit 0), (.lit 190)])
    (.br (.bi .lt (.var 1) (.lit (-7600)))
     (.ret [(.lit 0), (.lit 190)])
     (.br (.bi .lt (.lit 7600) (.var 1))
      (.ret [(.lit 0), (.lit 190)])
      (.ret [(.fn1 0 (.bi .sub (.var 0) (.var 1))), (.lit 0)])))))]
set_option maxRecDepth 100000 in
theorem sRSw : tmsRSw.map (summaryF (cx [cRef] []) 6000 1 tmsRSw cRSw.rt) = ssRSw := by kernel_rfl

noncomputable def tmsMatch : List Tm := [entryTm Tryd.prog cMatch,
  ⟨⟨⟨26, tl 38 [(2, (.func 27 [])), (4, (.ptr 2 (.lit 0) (.lit 0))), (6, (.ptr 3 (.lit 0) (.lit 0))), (8, (.ptr 4 (.lit 0) (.lit 0))), (17, (.slice 1 2 (.lit 0) (.var 1) none)), (18, (.int .i64 (.var 1))), (19, (.int .i64 (.var 4)))], [.at [0, 0, 1, 0, 1, 1, 1], .lp [0, 1, 0, 1, 1, 1], .blk 0, .at [1, 1, 1, 1]], [], none⟩, [⟨20, tl 18 [(0, (.slice 1 2 (.lit 0) (.var 1) none)), (2, (.int .i64 (.lit 0))), (3, (.int .i64 (.lit 0))), (4, (.int .i64 (.lit 0))), (8, (.slice 1 2 (.lit 0) (.var 1) none)), (9, (.agg [(.int .i64 (.lit 0)), (.int .i64 (.lit 0))]))], [.reg [0, 1] 2, .at [1, 1]], [], none⟩], [(.rows true [(.int .i64)] GA), (.rows true [(.int .i64), (.int .i64)] (.var 0)), (.cells false [(.int .i64 (.var 2)), (.int .i64 (.var 3))]), (.cells false [(.int .i64 (.lit 0)), (.int .i64 (.lit 0))]), (.cells false [(.int .i64 (.lit 0)), (.int .i64 (.lit 0))])]⟩, 5, [(.bi .le (.var 1) (.un .len (.var 0))), (.bi .le (.lit 0) (.var 4)), (.bi .le (.var 4) (.var 1)), (.bi .le (.var 1) (.lit 128))]⟩]
def ssMatch : List ST := [(.br (.bi .lt (.lit 128) (.var 1))
   (.ret [(.lit 0), (.lit 0), (.lit 5)])
   (.goto 1 [(.var 0), (.var 1), (.lit 0), (.lit 0), (.lit 0)])),
  (.br (.bi .lt (.var 4) (.var 1))
   (.br (.un .not (.bi .eq (.fn2 2 (.te .get (.var 0) (.var 4) (.lit 0)) (.te .get (.var 0) (.var 4) (.lit 1))) (.lit 0)))
    (.ret [(.lit 0), (.lit 0), (.fn2 2 (.te .get (.var 0) (.var 4) (.lit 0)) (.te .get (.var 0) (.var 4) (.lit 1)))])
    (.goto 1 [(.var 0), (.var 1), (.un (.wrap .i64) (.bi .add (.var 2) (.bi .max (.fn2 1 (.te .get (.var 0) (.var 4) (.lit 0)) (.te .get (.var 0) (.var 4) (.lit 1))) (.lit 0)))), (.un (.wrap .i64) (.bi .add (.var 3) (.bi .max (.un (.wrap .i64) (.bi .sub (.lit 0) (.fn2 1 (.te .get (.var 0) (.var 4) (.lit 0)) (.te .get (.var 0) (.var 4) (.lit 1))))) (.lit 0)))), (.bi .add (.var 4) (.lit 1))]))
   (.ret [(.var 2), (.var 3), (.lit 0)]))]
set_option maxRecDepth 100000 in
theorem sMatch : tmsMatch.map (summaryF (cx [cSw] [26]) 6000 2 tmsMatch cMatch.rt) = ssMatch := by kernel_rfl

noncomputable def tmsRun : List Tm := [entryTm Tryd.prog cRun,
  ⟨⟨⟨28, tl 38 [(1, (.slice 2 1 (.lit 0) (.un .len (.var 2)) none)), (2, (.func 29 [(.ptr 3 (.lit 0) (.lit 0))])), (8, .nils), (17, (.slice 1 2 (.lit 0) (.var 1) none)), (18, (.int .i64 (.var 1))), (19, (.int .i64 (.var 4)))], [.at [0, 0, 1, 0, 1, 1, 1], .lp [0, 1, 0, 1, 1, 1], .blk 0, .at [1, 1, 1, 1]], [], none⟩, [⟨21, tl 10 [(0, (.slice 1 2 (.lit 0) (.var 1) none)), (2, .nils), (3, (.int .i64 (.lit 0))), (4, (.ptr 3 (.lit 0) (.lit 0))), (5, (.slice 1 2 (.lit 0) (.var 1) none)), (6, (.func 29 [(.ptr 3 (.lit 0) (.lit 0))]))], [.reg [0, 1, 1] 2, .at [1, 1, 1]], [], none⟩], [(.rows true [(.int .i64)] GA), (.rows true [(.int .i64), (.int .i64)] (.var 0)), (.rows false [(.int .i64)] (.var 2)), (.cells false [(.int .i64 (.var 3))])]⟩, 5, [(.bi .le (.var 1) (.un .len (.var 0))), (.bi .le (.var 4) (.var 1)), (.bi .eq (.un .len (.var 2)) (.var 4)), (.bi .le (.var 1) (.lit 128))]⟩]
def ssRun : List ST := [(.br (.bi .lt (.lit 128) (.var 1))
   (.ret [.nil, (.lit 5)])
   (.goto 1 [(.var 0), (.var 1), .nil, (.lit 0), (.lit 0)])),
  (.br (.bi .lt (.var 4) (.var 1))
   (.br (.un .not (.bi .eq (.fn2 2 (.te .get (.var 0) (.var 4) (.lit 0)) (.te .get (.var 0) (.var 4) (.lit 1))) (.lit 0)))
    (.ret [.nil, (.fn2 2 (.te .get (.var 0) (.var 4) (.lit 0)) (.te .get (.var 0) (.var 4) (.lit 1)))])
    (.goto 1 [(.var 0), (.var 1), (.bi .snoc (.var 2) (.bi .cons (.un (.wrap .i64) (.bi .add (.var 3) (.fn2 1 (.te .get (.var 0) (.var 4) (.lit 0)) (.te .get (.var 0) (.var 4) (.lit 1))))) .nil)), (.un (.wrap .i64) (.bi .add (.var 3) (.fn2 1 (.te .get (.var 0) (.var 4) (.lit 0)) (.te .get (.var 0) (.var 4) (.lit 1))))), (.bi .add (.var 4) (.lit 1))]))
   (.ret [(.var 2), (.lit 0)]))]
set_option maxRecDepth 100000 in
theorem sRun : tmsRun.map (summaryF (cx [cSw] [28]) 6000 2 tmsRun cRun.rt) = ssRun := by kernel_rfl

noncomputable def tmsRRun : List Tm := [entryTm Tryd.prog cRRun,
  ⟨⟨⟨25, tl 43 [(0, (.slice 1 1 (.lit 0) (.un .len (.var 0)) none)), (1, (.slice 2 1 (.lit 0) (.un .len (.var 1)) none)), (6, (.slice 3 1 (.lit 0) (.un .len (.var 2)) none)), (7, (.int .i64 (.var 3))), (8, (.int .i64 (.var 4)))], [.at [0, 0, 1, 0, 1, 1, 1, 1], .lp [0, 1, 0, 1, 1, 1, 1], .blk 0, .at [1, 1, 1, 1, 1]], [], none⟩, [], [.dead, (.rows true [(.int .i64)] (.var 0)), (.rows true [(.int .i64)] (.var 1)), (.rows false [(.int .i64)] (.var 2))]⟩, 5, [(.bi .le (.var 4) (.un .len (.var 0))), (.bi .eq (.un .len (.var 2)) (.var 4)), (.bi .eq (.un .len (.var 0)) (.un .len (.var 1))), (.bi .le (.un .len (.var 0)) (.lit 128))]⟩]
def ssRRun : List ST := [(.br (.bi .lt (.lit 128) (.un .len (.var 0)))
   (.ret [.nil, (.lit 5)])
   (.goto 1 [(.var 0), (.var 1), .nil, (.lit 0), (.lit 0)])),
  (.br (.bi .lt (.var 4) (.un .len (.var 0)))
   (.br (.un .not (.bi .eq (.fn2 2 (.te .get (.var 0) (.var 4) (.lit 0)) (.te .get (.var 1) (.var 4) (.lit 0))) (.lit 0)))
    (.ret [.nil, (.fn2 2 (.te .get (.var 0) (.var 4) (.lit 0)) (.te .get (.var 1) (.var 4) (.lit 0)))])
    (.goto 1 [(.var 0), (.var 1), (.bi .snoc (.var 2) (.bi .cons (.un (.wrap .i64) (.bi .add (.var 3) (.fn2 1 (.te .get (.var 0) (.var 4) (.lit 0)) (.te .get (.var 1) (.var 4) (.lit 0))))) .nil)), (.un (.wrap .i64) (.bi .add (.var 3) (.fn2 1 (.te .get (.var 0) (.var 4) (.lit 0)) (.te .get (.var 1) (.var 4) (.lit 0))))), (.bi .add (.var 4) (.lit 1))]))
   (.ret [(.var 2), (.lit 0)]))]
set_option maxRecDepth 100000 in
theorem sRRun : tmsRRun.map (summaryF (cx [cRSw] [25]) 6000 3 tmsRRun cRRun.rt) = ssRRun := by kernel_rfl

noncomputable def tmsRMatch : List Tm := [entryTm Tryd.prog cRMatch,
  ⟨⟨⟨24, tl 51 [(0, (.slice 1 1 (.lit 0) (.un .len (.var 0)) none)), (1, (.slice 2 1 (.lit 0) (.un .len (.var 1)) none)), (9, (.int .i64 (.var 2))), (10, (.int .i64 (.var 4))), (11, (.int .i64 (.var 3)))], [.at [0, 0, 1, 0, 1, 1, 1], .lp [0, 1, 0, 1, 1, 1], .blk 0, .at [1, 1, 1, 1]], [], none⟩, [], [.dead, (.rows true [(.int .i64)] (.var 0)), (.rows true [(.int .i64)] (.var 1))]⟩, 5, [(.bi .eq (.un .len (.var 0)) (.un .len (.var 1))), (.bi .eq (.fn1 1 (.fn2 0 (.var 0) (.var 1))) (.lit 0))]⟩]
def ssRMatch : List ST := [(.br (.un .not (.bi .eq (.fn1 1 (.fn2 0 (.var 0) (.var 1))) (.lit 0)))
   (.ret [(.lit 0), (.lit 0), (.fn1 1 (.fn2 0 (.var 0) (.var 1)))])
   (.goto 1 [(.var 0), (.var 1), (.lit 0), (.lit 0), (.lit 0)])),
  (.br (.bi .lt (.var 3) (.un .len (.var 0)))
   (.need [(.bi .le (.lit 0) (.var 3)), (.bi .le (.lit 0) (.var 3)), (.bi .le (.lit 0) (.var 3)), (.bi .le (.lit 0) (.var 3))] (.br (.bi .lt (.lit 0) (.fn2 1 (.te .get (.var 0) (.var 3) (.lit 0)) (.te .get (.var 1) (.var 3) (.lit 0))))
    (.goto 1 [(.var 0), (.var 1), (.un (.wrap .i64) (.bi .add (.var 2) (.fn2 1 (.te .get (.var 0) (.var 3) (.lit 0)) (.te .get (.var 1) (.var 3) (.lit 0))))), (.un (.wrap .i64) (.bi .add (.var 3) (.lit 1))), (.var 4)])
    (.goto 1 [(.var 0), (.var 1), (.var 2), (.un (.wrap .i64) (.bi .add (.var 3) (.lit 1))), (.un (.wrap .i64) (.bi .sub (.var 4) (.fn2 1 (.te .get (.var 0) (.var 3) (.lit 0)) (.te .get (.var 1) (.var 3) (.lit 0)))))])))
   (.ret [(.var 2), (.var 4), (.lit 0)]))]
set_option maxRecDepth 100000 in
theorem sRMatch : tmsRMatch.map (summaryF (cx [cRSw, cRRun] [24]) 6000 3 tmsRMatch cRMatch.rt) = ssRMatch := by kernel_rfl

noncomputable def tmsAw : List Tm := [entryTm Tryd.prog cAw]
def ssAw : List ST := [(.br (.un .not (.bi .eq (.fn1 0 (.lit 10)) (.lit 0)))
   (.ret [(.bl false)])
   (.br (.un .not (.bi .eq (.fn1 0 (.lit 20)) (.lit 1)))
    (.ret [(.bl false)])
    (.br (.un .not (.bi .eq (.fn1 0 (.lit 40)) (.lit 1)))
     (.ret [(.bl false)])
     (.br (.un .not (.bi .eq (.fn1 0 (.lit 50)) (.lit 2)))
      (.ret [(.bl false)])
      (.br (.un .not (.bi .eq (.fn1 0 (.lit (-490))) (.lit (-10))))
       (.ret [(.bl false)])
       (.br (.un .not (.bi .eq (.fn1 0 (.lit 500)) (.lit 11)))
        (.ret [(.bl false)])
        (.br (.un .not (.bi .eq (.fn1 0 (.lit 3990)) (.lit 23)))
         (.ret [(.bl false)])
         (.br (.un .not (.bi .eq (.fn1 0 (.lit 4000)) (.lit 24)))
          (.ret [(.bl false)])
          (.br (.un .not (.bi .eq (.fn1 0 (.lit 100000)) (.lit 24)))
           (.ret [(.bl false)])
           (.need [(.bi .le (.lit 3) (.un .len (.bi .row (.bi .cons (.lit 620) (.bi .cons (.lit (-100)) .nil)) (.bi .row (.bi .cons (.lit 0) (.bi .cons (.lit 0) .nil)) (.bi .row (.bi .cons (.lit (-50)) (.bi .cons (.lit 110) .nil)) .nil)))))] (.br (.bi .eq (.fn1 2 (.bi .take (.bi .row (.bi .cons (.lit 620) (.bi .cons (.lit (-100)) .nil)) (.bi .row (.bi .cons (.lit 0) (.bi .cons (.lit 0) .nil)) (.bi .row (.bi .cons (.lit (-50)) (.bi .cons (.lit 110) .nil)) .nil))) (.lit 3))) (.lit 12))
            (.br (.bi .eq (.fn1 3 (.bi .take (.bi .row (.bi .cons (.lit 620) (.bi .cons (.lit (-100)) .nil)) (.bi .row (.bi .cons (.lit 0) (.bi .cons (.lit 0) .nil)) (.bi .row (.bi .cons (.lit (-50)) (.bi .cons (.lit 110) .nil)) .nil))) (.lit 3))) (.lit 4))
             (.br (.bi .eq (.fn1 1 (.bi .take (.bi .row (.bi .cons (.lit 620) (.bi .cons (.lit (-100)) .nil)) (.bi .row (.bi .cons (.lit 0) (.bi .cons (.lit 0) .nil)) (.bi .row (.bi .cons (.lit (-50)) (.bi .cons (.lit 110) .nil)) .nil))) (.lit 3))) (.lit 0))
              (.br (.bi .eq (.un .len (.fn1 4 (.bi .take (.bi .row (.bi .cons (.lit 620) (.bi .cons (.lit (-100)) .nil)) (.bi .row (.bi .cons (.lit 0) (.bi .cons (.lit 0) .nil)) (.bi .row (.bi .cons (.lit (-50)) (.bi .cons (.lit 110) .nil)) .nil))) (.lit 3)))) (.lit 3))
               (.br (.bi .eq (.te .get (.fn1 4 (.bi .take (.bi .row (.bi .cons (.lit 620) (.bi .cons (.lit (-100)) .nil)) (.bi .row (.bi .cons (.lit 0) (.bi .cons (.lit 0) .nil)) (.bi .row (.bi .cons (.lit (-50)) (.bi .cons (.lit 110) .nil)) .nil))) (.lit 3))) (.lit 0) (.lit 0)) (.lit 12))
                (.br (.bi .eq (.te .get (.fn1 4 (.bi .take (.bi .row (.bi .cons (.lit 620) (.bi .cons (.lit (-100)) .nil)) (.bi .row (.bi .cons (.lit 0) (.bi .cons (.lit 0) .nil)) (.bi .row (.bi .cons (.lit (-50)) (.bi .cons (.lit 110) .nil)) .nil))) (.lit 3))) (.lit 1) (.lit 0)) (.lit 12))
                 (.ret [(.bi .eq (.te .get (.fn1 4 (.bi .take (.bi .row (.bi .cons (.lit 620) (.bi .cons (.lit (-100)) .nil)) (.bi .row (.bi .cons (.lit 0) (.bi .cons (.lit 0) .nil)) (.bi .row (.bi .cons (.lit (-50)) (.bi .cons (.lit 110) .nil)) .nil))) (.lit 3))) (.lit 2) (.lit 0)) (.lit 8))])
                 (.ret [(.bl false)]))
                (.ret [(.bl false)]))
               (.ret [(.bl false)]))
              (.ret [(.bl false)]))
             (.ret [(.bl false)]))
            (.ret [(.bl false)]))))))))))))]
set_option maxRecDepth 100000 in
theorem sAw : tmsAw.map (summaryF (cx [cImp, cMatch, cRun] []) 6000 1 tmsAw cAw.rt) = ssAw := by kernel_rfl

noncomputable def tmsMt : List Tm := [entryTm Tryd.prog cMt,
  ⟨⟨⟨18, tl 137 [(0, (.slice 1 2 (.lit 0) (.un .len (.var 0)) none)), (3, (.slice 2 2 (.lit 0) (.bi .add (.un .len (.var 0)) (.lit 1)) none)), (4, (.slice 3 1 (.lit 0) (.un .len (.var 1)) none)), (5, (.slice 4 1 (.lit 0) (.un .len (.var 2)) none)), (27, (.slice 1 2 (.lit 0) (.un .len (.var 0)) none)), (28, (.int .i64 (.un .len (.var 0)))), (29, (.int .i64 (.var 3)))], [.at [0, 0, 1, 0, 1, 1, 1], .lp [0, 1, 0, 1, 1, 1], .blk 0, .at [1, 1, 1, 1]], [], none⟩, [], [(.rows true [(.int .i64)] GA), (.rows true [(.int .i64), (.int .i64)] (.var 0)), (.rows false [(.int .i64), (.int .i64)] (.bi .snoc (.var 0) (.bi .cons (.lit 7) (.bi .cons (.lit 0) .nil)))), (.rows false [(.int .i64)] (.var 1)), (.rows false [(.int .i64)] (.var 2))]⟩, 4, [(.bi .le (.var 3) (.un .len (.var 0))), (.bi .eq (.un .len (.var 1)) (.var 3)), (.bi .eq (.un .len (.var 2)) (.var 3)), (.bi .le (.un .len (.var 0)) (.lit 200))]⟩,
  ⟨⟨⟨18, tl 137 [(0, (.slice 1 2 (.lit 0) (.un .len (.var 0)) none)), (3, (.slice 2 2 (.lit 0) (.bi .add (.un .len (.var 0)) (.lit 1)) none)), (14, (.slice 3 1 (.lit 0) (.un .len (.fn1 4 (.bi .take (.bi .snoc (.var 0) (.bi .cons (.lit 7) (.bi .cons (.lit 0) .nil))) (.un .len (.var 0))))) none)), (16, (.slice 4 1 (.lit 0) (.un .len (.var 1)) none)), (109, (.int .i64 (.un .len (.fn1 4 (.bi .take (.bi .snoc (.var 0) (.bi .cons (.lit 7) (.bi .cons (.lit 0) .nil))) (.un .len (.var 0))))))), (110, (.int .i64 (.var 2)))], [.at [0, 0, 1, 0, 1, 1, 1, 1, 1, 1, 1, 1, 1], .lp [0, 1, 0, 1, 1, 1, 1, 1, 1, 1, 1, 1], .blk 2, .at [1, 1, 1, 1, 1, 1, 1, 1, 1, 1]], [], none⟩, [], [(.rows true [(.int .i64)] GA), (.rows true [(.int .i64), (.int .i64)] (.var 0)), (.rows false [(.int .i64), (.int .i64)] (.bi .snoc (.var 0) (.bi .cons (.lit 7) (.bi .cons (.lit 0) .nil)))), (.rows false [(.int .i64)] (.fn1 4 (.bi .take (.bi .snoc (.var 0) (.bi .cons (.lit 7) (.bi .cons (.lit 0) .nil))) (.un .len (.var 0))))), (.rows false [(.int .i64)] (.var 1))]⟩, 3, [(.bi .le (.un .len (.var 0)) (.un .len (.bi .snoc (.var 0) (.bi .cons (.lit 7) (.bi .cons (.lit 0) .nil))))), (.bi .le (.un .len (.var 0)) (.lit 200))]⟩,
  ⟨⟨⟨18, tl 137 [(3, (.slice 2 2 (.lit 0) (.bi .add (.un .len (.var 0)) (.lit 1)) none)), (123, (.slice 1 2 (.lit 0) (.un .len (.var 0)) none)), (124, (.int .i64 (.un .len (.var 0)))), (125, (.int .i64 (.var 1)))], [.at [0, 0, 1, 0, 1, 1, 1, 1, 1, 1, 1, 1, 1, 1], .lp [0, 1, 0, 1, 1, 1, 1, 1, 1, 1, 1, 1, 1], .blk 4, .at [1, 1, 1, 1, 1, 1, 1, 1, 1, 1, 1]], [], none⟩, [], [(.rows true [(.int .i64)] GA), (.rows true [(.int .i64), (.int .i64)] (.var 0)), (.rows false [(.int .i64), (.int .i64)] (.bi .snoc (.var 0) (.bi .cons (.lit 7) (.bi .cons (.lit 0) .nil))))]⟩, 2, [(.bi .le (.lit 0) (.var 1)), (.bi .le (.var 1) (.un .len (.var 0))), (.bi .le (.un .len (.var 0)) (.un .len (.bi .snoc (.var 0) (.bi .cons (.lit 7) (.bi .cons (.lit 0) .nil))))), (.bi .le (.un .len (.var 0)) (.lit 200))]⟩]
def ssMt : List ST := [(.goto 1 [(.var 0), .nil, .nil, (.lit 0)]),
  (.br (.bi .lt (.var 3) (.un .len (.var 0)))
   (.goto 1 [(.var 0), (.bi .snoc (.var 1) (.bi .cons (.te .get (.var 0) (.var 3) (.lit 0)) .nil)), (.bi .snoc (.var 2) (.bi .cons (.te .get (.var 0) (.var 3) (.lit 1)) .nil)), (.bi .add (.var 3) (.lit 1))])
   (.need [(.bi .le (.un .len (.var 0)) (.un .len (.bi .snoc (.var 0) (.bi .cons (.lit 7) (.bi .cons (.lit 0) .nil)))))] (.br (.un .not (.bi .eq (.fn1 2 (.bi .take (.bi .snoc (.var 0) (.bi .cons (.lit 7) (.bi .cons (.lit 0) .nil))) (.un .len (.var 0)))) (.fn1 2 (.fn2 0 (.var 1) (.var 2)))))
    (.ret [(.bl false)])
    (.br (.un .not (.bi .eq (.fn1 3 (.bi .take (.bi .snoc (.var 0) (.bi .cons (.lit 7) (.bi .cons (.lit 0) .nil))) (.un .len (.var 0)))) (.fn1 3 (.fn2 0 (.var 1) (.var 2)))))
     (.ret [(.bl false)])
     (.br (.un .not (.bi .eq (.fn1 1 (.bi .take (.bi .snoc (.var 0) (.bi .cons (.lit 7) (.bi .cons (.lit 0) .nil))) (.un .len (.var 0)))) (.fn1 1 (.fn2 0 (.var 1) (.var 2)))))
      (.ret [(.bl false)])
      (.br (.un .not (.bi .eq (.un .len (.fn1 4 (.bi .take (.bi .snoc (.var 0) (.bi .cons (.lit 7) (.bi .cons (.lit 0) .nil))) (.un .len (.var 0))))) (.un .len (.fn1 4 (.fn2 0 (.var 1) (.var 2))))))
       (.ret [(.bl false)])
       (.goto 2 [(.var 0), (.fn1 4 (.fn2 0 (.var 1) (.var 2))), (.lit 0)]))))))),
  (.br (.bi .lt (.var 2) (.un .len (.fn1 4 (.bi .take (.bi .snoc (.var 0) (.bi .cons (.lit 7) (.bi .cons (.lit 0) .nil))) (.un .len (.var 0))))))
   (.need [(.bi .le (.lit 0) (.var 2)), (.bi .le (.lit 0) (.var 2)), (.bi .le (.lit 0) (.var 2)), (.bi .lt (.var 2) (.un .len (.var 1))), (.bi .le (.lit 0) (.var 2)), (.bi .lt (.var 2) (.un .len (.var 1)))] (.br (.un .not (.bi .eq (.te .get (.fn1 4 (.bi .take (.bi .snoc (.var 0) (.bi .cons (.lit 7) (.bi .cons (.lit 0) .nil))) (.un .len (.var 0)))) (.var 2) (.lit 0)) (.te .get (.var 1) (.var 2) (.lit 0))))
    (.ret [(.bl false)])
    (.goto 2 [(.var 0), (.var 1), (.un (.wrap .i64) (.bi .add (.var 2) (.lit 1)))])))
   (.goto 3 [(.var 0), (.lit 0)])),
  (.br (.bi .lt (.var 1) (.un .len (.var 0)))
   (.goto 3 [(.var 0), (.bi .add (.var 1) (.lit 1))])
   (.ret [(.bl true)]))]
set_option maxRecDepth 100000 in
theorem sMt : tmsMt.map (summaryF (cx [cMatch, cRun, cRMatch, cRRun] [18]) 6000 2 tmsMt cMt.rt) = ssMt := by kernel_rfl

noncomputable def tmsMd : List Tm := [entryTm Tryd.prog cMd,
  ⟨⟨⟨19, tl 33 [(3, (.slice 2 2 (.lit 0) (.un .len (.var 1)) none)), (10, (.slice 1 1 (.lit 0) (.var 2) none)), (11, (.int .i64 (.var 2))), (12, (.int .i64 (.var 3)))], [.at [0, 0, 1, 0, 1, 1], .lp [0, 1, 0, 1, 1], .blk 0, .at [1, 1, 1]], [], none⟩, [], [.dead, (.rows true [(.int .u32)] (.var 0)), (.rows false [(.int .i64), (.int .i64)] (.var 1))]⟩, 4, [(.bi .le (.lit 0) (.var 2)), (.bi .le (.var 2) (.un .len (.var 0))), (.te .elems (.var 0) (.lit 0) (.lit 4294967295))]⟩]
def ssMd : List ST := [(.need [(.bi .le (.bi .min (.var 1) (.lit 128)) (.var 1))] (.goto 1 [(.var 0), .nil, (.bi .min (.var 1) (.lit 128)), (.lit 0)])),
  (.br (.bi .lt (.var 3) (.var 2))
   (.need [(.bi .le (.lit 0) (.var 3))] (.need [(.bi .le (.bi .add (.un .len (.var 1)) (.lit 1)) (.lit 8278675785607))] (.goto 1 [(.var 0), (.bi .snoc (.var 1) (.bi .cons (.bi .add (.bi .mul (.bi .rem (.te .get (.var 0) (.var 3) (.lit 0)) (.lit 1521)) (.lit 10)) (.lit (-7600))) (.bi .cons (.bi .add (.bi .mul (.bi .rem (.bi .quo (.te .get (.var 0) (.var 3) (.lit 0)) (.lit 1521)) (.lit 1521)) (.lit 10)) (.lit (-7600))) .nil))), (.var 2), (.un (.wrap .i64) (.bi .add (.var 3) (.lit 1)))])))
   (.ret [(.var 1)]))]
set_option maxRecDepth 100000 in
theorem sMd : tmsMd.map (summaryF (cx [] [19]) 6000 2 tmsMd cMd.rt) = ssMd := by kernel_rfl

end Go.Proofs.YtmncmboeddlcmaaDoor
