/- Chapter 25: the summaries of what asks lists of pairs, as the kernel reckons them. -/
import Derived.Test.YtbknfmmoniammaaC25R
namespace Go.Proofs.Ytbknfmmoniammaa
open Go Go.Sx Go.Proofs.C25

noncomputable def tmsHas : List Tm := [entryTm Try.prog cHas,
  ⟨⟨⟨29, tl 19 [(0, (.slice 0 1 (.lit 0) (.var 1) none)), (1, (.int .i64 (.var 2))), (7, (.int .i64 (.var 1))), (8, (.int .i64 (.var 3)))], [.at [0, 0, 1, 0, 1], .lp [0, 1, 0, 1], .blk 0, .at [1, 1]], [], none⟩, [⟨15, tl 9 [(0, (.slice 0 1 (.lit 0) (.var 1) none)), (1, (.int .i64 (.var 2))), (4, (.bool (.bl false))), (5, (.slice 0 1 (.lit 0) (.var 1) none)), (6, (.int .i64 (.var 2)))], [.reg [0, 1] 2, .at [1, 1]], [], none⟩], [(.rows true [(.int .i64)] (.var 0))]⟩, 4, [(.bi .le (.var 1) (.un .len (.var 0))), (.bi .le (.lit 0) (.var 3)), (.bi .le (.var 3) (.var 1)), (.bi .le (.un .len (.var 0)) (.lit 100000))]⟩]
def ssHas : List ST := [(.goto 1 [(.var 0), (.var 1), (.var 2), (.lit 0)]),
  (.br (.bi .lt (.var 3) (.var 1))
   (.br (.bi .eq (.var 2) (.te .get (.var 0) (.var 3) (.lit 0)))
    (.ret [(.bl true)])
    (.goto 1 [(.var 0), (.var 1), (.var 2), (.bi .add (.var 3) (.lit 1))]))
   (.ret [(.bl false)]))]
set_option maxRecDepth 100000 in
theorem sHas : tmsHas.map (summaryF (cx [] [29]) 6000 1 tmsHas cHas.rt) = ssHas := by kernel_rfl

noncomputable def tmsSorted : List Tm := [entryTm Try.prog cSorted,
  ⟨⟨⟨56, tl 19 [(0, (.slice 0 1 (.lit 0) (.un .len (.var 0)) none)), (1, (.func 46 [])), (7, (.int .i64 (.un .len (.var 0)))), (8, (.int .i64 (.var 1)))], [.at [0, 0, 1, 0, 1], .lp [0, 1, 0, 1], .blk 0, .at [1, 1]], [], none⟩, [⟨44, tl 42 [(0, (.slice 0 1 (.lit 0) (.un .len (.var 0)) none)), (1, (.func 46 [])), (4, .nils), (8, (.slice 0 1 (.lit 0) (.un .len (.var 0)) none)), (9, (.func 46 []))], [.reg [0, 1] 2, .at [1, 1]], [], none⟩, ⟨27, tl 9 [(0, (.slice 0 1 (.lit 0) (.un .len (.var 0)) none)), (2, .nils), (3, (.slice 0 1 (.lit 0) (.un .len (.var 0)) none))], [.reg [0, 1] 1, .at [1, 1]], [], none⟩], [(.rows false [(.int .i64)] (.var 0))]⟩, 2, [(.bi .le (.lit 0) (.var 1)), (.bi .le (.var 1) (.un .len (.var 0))), (.bi .le (.un .len (.var 0)) (.lit 100000))]⟩,
  ⟨⟨⟨44, tl 42 [(0, (.slice 0 1 (.lit 0) (.un .len (.var 0)) none)), (1, (.func 46 [])), (5, (.int .i64 (.var 1))), (6, (.int .i64 (.var 2)))], [.at [0, 0, 1, 0, 1, 1, 1], .lp [0, 1, 0, 1, 1, 1], .blk 0, .at [1, 1, 1, 1]], [], none⟩, [⟨27, tl 9 [(0, (.slice 0 1 (.lit 0) (.un .len (.var 0)) none)), (2, .nils), (3, (.slice 0 1 (.lit 0) (.un .len (.var 0)) none))], [.reg [0, 1] 1, .at [1, 1]], [], none⟩], [(.rows false [(.int .i64)] (.var 0))]⟩, 3, [(.bi .le (.lit 0) (.var 1)), (.bi .le (.var 1) (.un .len (.var 0))), (.bi .le (.lit 0) (.var 2)), (.bi .le (.var 2) (.un .len (.var 0))), (.bi .le (.un .len (.var 0)) (.lit 100000))]⟩,
  ⟨⟨⟨48, tl 61 [(0, (.slice 0 1 (.lit 0) (.var 1) none)), (3, (.int .i64 (.var 3)))], [.at [0, 0, 1, 0, 1, 1], .lp [0, 1, 0, 1, 1], .blk 0, .at [1, 1, 1]], [], none⟩, [⟨27, tl 9 [(0, (.slice 0 1 (.lit 0) (.var 1) none)), (2, .nils), (3, (.slice 0 1 (.lit 0) (.var 2) none)), (4, (.slice 0 1 (.lit 0) (.var 1) none)), (5, (.slice 0 1 (.lit 0) (.var 1) none)), (7, (.slice 0 1 (.lit 0) (.var 1) none))], [.reg [0, 1, 1, 1] 1, .at [1, 1, 1, 1]], [], none⟩], [(.rows false [(.int .i64)] (.var 0))]⟩, 4, [(.bi .le (.lit 0) (.var 1)), (.bi .le (.lit 0) (.var 2))]⟩,
  ⟨⟨⟨48, tl 61 [(0, (.slice 0 1 (.lit 0) (.var 1) none)), (3, (.int .i64 (.var 3))), (4, (.slice 0 1 (.var 5) (.var 6) none)), (5, (.int .i64 (.var 4)))], [.at [0, 0, 1, 0, 1, 0, 1, 0, 0, 1, 0, 0, 1, 0, 1, 1], .lp [0, 1, 0, 1, 0, 1, 0, 0, 1, 0, 0, 1, 0, 1, 1], .blk 2, .at [1, 1, 0, 1, 0, 0, 1, 0, 0, 1, 0, 1, 1], .blk 1, .at [1, 1, 0, 0, 1, 0, 1, 1], .lp [0, 1, 0, 1, 1], .blk 0, .at [1, 1, 1]], [], none⟩, [⟨27, tl 9 [(0, (.slice 0 1 (.lit 0) (.var 1) none)), (2, .nils), (3, (.slice 0 1 (.lit 0) (.var 2) none)), (4, (.slice 0 1 (.lit 0) (.var 1) none)), (5, (.slice 0 1 (.lit 0) (.var 1) none)), (7, (.slice 0 1 (.lit 0) (.var 1) none))], [.reg [0, 1, 1, 1] 1, .at [1, 1, 1, 1]], [], none⟩], [(.rows false [(.int .i64)] (.var 0))]⟩, 7, [(.bi .le (.lit 0) (.var 1)), (.bi .le (.lit 0) (.var 2)), (.bi .le (.lit 0) (.var 5)), (.bi .le (.var 5) (.un .len (.var 0)))]⟩]
def ssSorted : List ST := [(.goto 1 [(.var 0), (.lit 0)]),
  (.br (.bi .lt (.var 1) (.un .len (.var 0)))
   (.br (.bi .lt (.te .get (.var 0) (.var 1) (.lit 0)) (.lit 1))
    (.goto 2 [(.var 0), (.var 1), (.bi .add (.var 1) (.lit 1))])
    (.goto 1 [(.var 0), (.bi .add (.var 1) (.lit 1))]))
   (.br (.bi .lt (.un .len (.var 0)) (.lit 2))
    (.ret [(.fn2 12 (.var 0) (.un .len (.var 0))), (.un .len (.var 0))])
    (.goto 3 [(.fn2 12 (.var 0) (.un .len (.var 0))), (.un .len (.var 0)), (.un .len (.var 0)), (.lit 1)]))),
  (.br (.bi .lt (.var 2) (.un .len (.var 0)))
   (.br (.bi .le (.lit 1) (.te .get (.var 0) (.var 2) (.lit 0)))
    (.need [(.bi .lt (.var 1) (.un .len (.var 0)))] (.goto 2 [(.se (.var 0) (.var 1) (.lit 0) (.te .get (.var 0) (.var 2) (.lit 0))), (.bi .add (.var 1) (.lit 1)), (.bi .add (.var 2) (.lit 1))]))
    (.goto 2 [(.var 0), (.var 1), (.bi .add (.var 2) (.lit 1))]))
   (.need [(.bi .le (.bi .add (.var 1) (.bi .sub (.un .len (.var 0)) (.var 1))) (.un .len (.var 0)))] (.need [(.bi .le (.var 1) (.un .len (.bi .app (.bi .app (.bi .take (.var 0) (.var 1)) (.bi .rep (.bi .sub (.un .len (.var 0)) (.var 1)) (.bi .cons (.lit 0) .nil))) (.bi .drop (.var 0) (.bi .add (.var 1) (.bi .sub (.un .len (.var 0)) (.var 1))))))), (.bi .le (.un .len (.bi .app (.bi .app (.bi .take (.var 0) (.var 1)) (.bi .rep (.bi .sub (.un .len (.var 0)) (.var 1)) (.bi .cons (.lit 0) .nil))) (.bi .drop (.var 0) (.bi .add (.var 1) (.bi .sub (.un .len (.var 0)) (.var 1)))))) (.lit 1000000000))] (.br (.bi .lt (.var 1) (.lit 2))
    (.ret [(.fn2 12 (.bi .app (.bi .app (.bi .take (.var 0) (.var 1)) (.bi .rep (.bi .sub (.un .len (.var 0)) (.var 1)) (.bi .cons (.lit 0) .nil))) (.bi .drop (.var 0) (.bi .add (.var 1) (.bi .sub (.un .len (.var 0)) (.var 1))))) (.var 1)), (.var 1)])
    (.goto 3 [(.fn2 12 (.bi .app (.bi .app (.bi .take (.var 0) (.var 1)) (.bi .rep (.bi .sub (.un .len (.var 0)) (.var 1)) (.bi .cons (.lit 0) .nil))) (.bi .drop (.var 0) (.bi .add (.var 1) (.bi .sub (.un .len (.var 0)) (.var 1))))) (.var 1)), (.var 1), (.un .len (.var 0)), (.lit 1)]))))),
  (.br (.bi .lt (.var 3) (.var 1))
   (.need [(.bi .le (.lit 0) (.var 3)), (.bi .le (.lit 0) (.var 3)), (.bi .lt (.var 3) (.un .len (.var 0))), (.bi .le (.lit 0) (.un (.wrap .i64) (.bi .add (.var 3) (.lit (-1))))), (.bi .lt (.un (.wrap .i64) (.bi .add (.var 3) (.lit (-1)))) (.var 1)), (.bi .le (.lit 0) (.un (.wrap .i64) (.bi .add (.var 3) (.lit (-1))))), (.bi .lt (.un (.wrap .i64) (.bi .add (.var 3) (.lit (-1)))) (.un .len (.var 0)))] (.br (.bi .eq (.te .get (.var 0) (.var 3) (.lit 0)) (.te .get (.var 0) (.un (.wrap .i64) (.bi .add (.var 3) (.lit (-1)))) (.lit 0)))
    (.goto 4 [(.var 0), (.var 1), (.var 2), (.var 3), (.lit 1), (.var 3), (.bi .sub (.var 1) (.var 3))])
    (.goto 3 [(.var 0), (.var 1), (.var 2), (.un (.wrap .i64) (.bi .add (.var 3) (.lit 1)))])))
   (.ret [(.var 0), (.var 1)])),
  (.br (.bi .lt (.var 4) (.var 6))
   (.need [(.bi .le (.lit 0) (.var 4)), (.bi .le (.lit 0) (.bi .add (.var 5) (.var 4))), (.bi .lt (.bi .add (.var 5) (.var 4)) (.un .len (.var 0))), (.bi .le (.lit 0) (.un (.wrap .i64) (.bi .add (.var 4) (.lit (-1))))), (.bi .lt (.un (.wrap .i64) (.bi .add (.var 4) (.lit (-1)))) (.var 6)), (.bi .le (.lit 0) (.bi .add (.var 5) (.un (.wrap .i64) (.bi .add (.var 4) (.lit (-1)))))), (.bi .lt (.bi .add (.var 5) (.un (.wrap .i64) (.bi .add (.var 4) (.lit (-1))))) (.un .len (.var 0)))] (.br (.un .not (.bi .eq (.te .get (.var 0) (.bi .add (.var 5) (.var 4)) (.lit 0)) (.te .get (.var 0) (.bi .add (.var 5) (.un (.wrap .i64) (.bi .add (.var 4) (.lit (-1))))) (.lit 0))))
    (.need [(.bi .le (.lit 0) (.var 3)), (.bi .lt (.var 3) (.var 1))] (.need [(.bi .lt (.var 3) (.un .len (.var 0)))] (.goto 4 [(.se (.var 0) (.var 3) (.lit 0) (.te .get (.var 0) (.bi .add (.var 5) (.var 4)) (.lit 0))), (.var 1), (.var 2), (.un (.wrap .i64) (.bi .add (.var 3) (.lit 1))), (.un (.wrap .i64) (.bi .add (.var 4) (.lit 1))), (.var 5), (.var 6)])))
    (.goto 4 [(.var 0), (.var 1), (.var 2), (.var 3), (.un (.wrap .i64) (.bi .add (.var 4) (.lit 1))), (.var 5), (.var 6)])))
   (.need [(.bi .le (.lit 0) (.var 3)), (.bi .le (.var 3) (.var 1))] (.need [(.bi .le (.bi .add (.var 3) (.bi .sub (.var 1) (.var 3))) (.un .len (.var 0)))] (.ret [(.bi .app (.bi .app (.bi .take (.var 0) (.var 3)) (.bi .rep (.bi .sub (.var 1) (.var 3)) (.bi .cons (.lit 0) .nil))) (.bi .drop (.var 0) (.bi .add (.var 3) (.bi .sub (.var 1) (.var 3))))), (.var 3)]))))]
set_option maxRecDepth 100000 in
theorem sSorted : tmsSorted.map (summaryF (cx [cSort47] [44, 56, 48]) 6000 1 tmsSorted cSorted.rt) = ssSorted := by kernel_rfl

noncomputable def tmsPairs : List Tm := [entryTm Try.prog cPairs,
  ⟨⟨⟨13, tl 23 [(3, (.slice 1 1 (.lit 0) (.un .len (.var 1)) none)), (7, (.slice 0 5 (.lit 0) (.un .len (.var 0)) none)), (8, (.int .i64 (.un .len (.var 0)))), (9, (.int .i64 (.var 2)))], [.at [0, 0, 1, 0, 1, 1], .lp [0, 1, 0, 1, 1], .blk 0, .at [1, 1, 1]], [], none⟩, [], [(.rows true [(.int .i64), (.int .i64), (.int .i64), (.int .i64), (.int .i64)] (.var 0)), (.rows false [(.int .i64)] (.var 1))]⟩, 3, [(.bi .le (.lit 0) (.var 2)), (.bi .le (.var 2) (.un .len (.var 0))), (.bi .le (.var 2) (.un .len (.var 1))), (.bi .le (.un .len (.var 0)) (.lit 5000))]⟩]
def ssPairs : List ST := [(.goto 1 [(.var 5), .nil, (.lit 0)]),
  (.br (.bi .lt (.var 2) (.un .len (.var 0)))
   (.need [(.bi .le (.bi .add (.un .len (.var 1)) (.lit 2)) (.lit 15637498706147))] (.goto 1 [(.var 0), (.bi .snoc (.bi .snoc (.var 1) (.bi .cons (.te .get (.var 0) (.var 2) (.lit 2)) .nil)) (.bi .cons (.te .get (.var 0) (.var 2) (.lit 3)) .nil)), (.bi .add (.var 2) (.lit 1))]))
   (.need [(.bi .le (.un .len (.var 1)) (.lit 100000))] (.ret [(.fn1 0 (.var 1)), (.fn1 1 (.var 1))])))]
set_option maxRecDepth 100000 in
theorem sPairs : tmsPairs.map (summaryF (cx [cSorted] [13]) 6000 1 tmsPairs cPairs.rt) = ssPairs := by kernel_rfl

noncomputable def tmsWithout : List Tm := [entryTm Try.prog cWithout,
  ⟨⟨⟨14, tl 55 [(1, (.int .i64 (.var 6))), (2, (.ptr 1 (.lit 0) (.lit 0))), (4, (.ptr 3 (.lit 0) (.lit 0))), (25, (.int .i64 (.un .len (.var 5)))), (26, (.int .i64 (.var 8)))], [.at [0, 0, 1, 0, 1, 1, 1], .lp [0, 1, 0, 1, 1, 1], .blk 0, .at [1, 1, 1, 1]], [], none⟩, [], [(.rows true [(.int .i64), (.int .i64), (.int .i64), (.int .i64), (.int .i64)] (.var 5)), (.cells false [(.int .i64 (.var 0)), (.int .i64 (.var 1)), (.int .i64 (.var 2)), (.int .i64 (.var 3)), (.int .i64 (.var 4)), (.slice 2 5 (.lit 0) (.un .len (.var 7)) none)]), (.rows false [(.int .i64), (.int .i64), (.int .i64), (.int .i64), (.int .i64)] (.var 7)), (.cells false [(.int .i64 (.lit 0)), (.int .i64 (.lit 0)), (.int .i64 (.lit 0)), (.int .i64 (.lit 0)), (.int .i64 (.lit 0)), .nils])]⟩, 9, [(.bi .le (.lit 0) (.var 8)), (.bi .le (.var 8) (.un .len (.var 5))), (.bi .eq (.un .len (.var 5)) (.un .len (.var 7))), (.un .not (.bi .eq (.un .len (.var 5)) (.lit 0))), (.fn3 10 (.fn1 2 (.var 5)) (.fn1 3 (.var 5)) (.var 6)), (.bi .le (.lit 0) (.fn1 3 (.var 5))), (.bi .le (.fn1 3 (.var 5)) (.un .len (.fn1 2 (.var 5)))), (.bi .le (.un .len (.fn1 2 (.var 5))) (.lit 100000)), (.bi .le (.lit 1) (.var 6)), (.bi .le (.un .len (.var 5)) (.lit 5000))]⟩,
  ⟨⟨⟨14, tl 55 [(1, (.int .i64 (.var 6))), (2, (.ptr 1 (.lit 0) (.lit 0))), (4, (.ptr 3 (.lit 0) (.lit 0))), (25, (.int .i64 (.un .len (.var 5)))), (26, (.int .i64 (.var 9))), (39, (.slice 4 1 (.lit 0) (.lit 2) (some (.lit 2)))), (40, (.int .i64 (.lit 2))), (41, (.int .i64 (.var 8)))], [.at [0, 0, 1, 1, 0, 0, 1, 1, 0, 0, 1, 0, 1, 1, 1], .lp [0, 1, 1, 0, 0, 1, 1, 0, 0, 1, 0, 1, 1, 1], .blk 2, .blk 1, .at [1, 1, 1, 0, 0, 1, 0, 1, 1, 1], .lp [0, 1, 0, 1, 1, 1], .blk 0, .at [1, 1, 1, 1]], [], none⟩, [], [(.rows true [(.int .i64), (.int .i64), (.int .i64), (.int .i64), (.int .i64)] (.var 5)), (.cells false [(.int .i64 (.var 0)), (.int .i64 (.var 1)), (.int .i64 (.var 2)), (.int .i64 (.var 3)), (.int .i64 (.var 4)), (.slice 2 5 (.lit 0) (.un .len (.var 7)) none)]), (.rows false [(.int .i64), (.int .i64), (.int .i64), (.int .i64), (.int .i64)] (.var 7)), (.cells false [(.int .i64 (.lit 0)), (.int .i64 (.lit 0)), (.int .i64 (.lit 0)), (.int .i64 (.lit 0)), (.int .i64 (.lit 0)), .nils]), (.cells false [(.ptr 2 (.var 9) (.lit 2)), (.ptr 2 (.var 9) (.lit 3))])]⟩, 10, [(.bi .le (.lit 0) (.var 8)), (.bi .le (.var 8) (.lit 2)), (.bi .le (.lit 0) (.var 9)), (.bi .eq (.un .len (.var 5)) (.un .len (.var 7))), (.bi .lt (.var 9) (.un .len (.var 5))), (.fn3 10 (.fn1 2 (.var 5)) (.fn1 3 (.var 5)) (.var 6)), (.bi .le (.lit 0) (.fn1 3 (.var 5))), (.bi .le (.fn1 3 (.var 5)) (.un .len (.fn1 2 (.var 5)))), (.bi .le (.un .len (.fn1 2 (.var 5))) (.lit 100000)), (.bi .le (.lit 1) (.var 6)), (.bi .le (.un .len (.var 5)) (.lit 5000))]⟩]
def ssWithout : List ST := [(.br (.bi .lt (.var 6) (.lit 1))
   (.ret [(.lit 0), (.lit 0), (.lit 0), (.lit 0), (.lit 0), .nil, (.lit 6)])
   (.need [(.bi .le (.lit 0) (.fn1 3 (.var 5))), (.bi .le (.fn1 3 (.var 5)) (.un .len (.fn1 2 (.var 5)))), (.bi .le (.un .len (.fn1 2 (.var 5))) (.lit 100000))] (.br (.un .not (.fn3 10 (.fn1 2 (.var 5)) (.fn1 3 (.var 5)) (.var 6)))
    (.ret [(.lit 0), (.lit 0), (.lit 0), (.lit 0), (.lit 0), .nil, (.lit 6)])
    (.need [(.un .not (.bi .eq (.un .len (.var 5)) (.lit 0)))] (.goto 1 [(.var 0), (.var 1), (.var 2), (.var 3), (.var 4), (.var 5), (.var 6), (.var 5), (.lit 0)]))))),
  (.br (.bi .lt (.var 8) (.un .len (.var 5)))
   (.goto 2 [(.var 0), (.var 1), (.var 2), (.var 3), (.var 4), (.var 5), (.var 6), (.var 7), (.lit 0), (.var 8)])
   (.ret [(.var 0), (.var 1), (.var 2), (.var 3), (.var 4), (.var 7), (.lit 0)])),
  (.br (.bi .lt (.var 8) (.lit 2))
   (.br (.bi .eq (.var 8) (.lit 0))
    (.br (.bi .eq (.te .get (.var 7) (.var 9) (.lit 2)) (.var 6))
     (.goto 2 [(.var 0), (.var 1), (.var 2), (.var 3), (.var 4), (.var 5), (.var 6), (.se (.var 7) (.var 9) (.lit 2) (.lit 0)), (.bi .add (.var 8) (.lit 1)), (.var 9)])
     (.goto 2 [(.var 0), (.var 1), (.var 2), (.var 3), (.var 4), (.var 5), (.var 6), (.var 7), (.bi .add (.var 8) (.lit 1)), (.var 9)]))
    (.br (.bi .eq (.var 8) (.lit 1))
     (.br (.bi .eq (.te .get (.var 7) (.var 9) (.lit 3)) (.var 6))
      (.goto 2 [(.var 0), (.var 1), (.var 2), (.var 3), (.var 4), (.var 5), (.var 6), (.se (.var 7) (.var 9) (.lit 3) (.lit 0)), (.bi .add (.var 8) (.lit 1)), (.var 9)])
      (.goto 2 [(.var 0), (.var 1), (.var 2), (.var 3), (.var 4), (.var 5), (.var 6), (.var 7), (.bi .add (.var 8) (.lit 1)), (.var 9)]))
     (.bad 4)))
   (.goto 1 [(.var 0), (.var 1), (.var 2), (.var 3), (.var 4), (.var 5), (.var 6), (.var 7), (.bi .add (.var 9) (.lit 1))]))]
set_option maxRecDepth 100000 in
theorem sWithout : tmsWithout.map (summaryF (cx [cPairs, cHas] [14]) 6000 1 tmsWithout cWithout.rt) = ssWithout := by kernel_rfl

noncomputable def tmsWhere : List Tm := [entryTm Try.prog cWhere,
  ⟨⟨⟨23, tl 40 [(1, (.int .i64 (.var 1))), (2, (.int .i64 (.var 2))), (6, (.ptr 1 (.lit 0) (.lit 0))), (11, (.slice 0 5 (.lit 0) (.un .len (.var 0)) none)), (12, (.int .i64 (.un .len (.var 0)))), (13, (.int .i64 (.var 3)))], [.at [0, 0, 1, 0, 1], .lp [0, 1, 0, 1], .blk 0, .at [1, 1]], [], none⟩, [], [(.rows true [(.int .i64), (.int .i64), (.int .i64), (.int .i64), (.int .i64)] (.var 0)), (.cells false [(.int .i64 (.lit 0)), (.int .i64 (.lit 0)), (.int .i64 (.lit 0)), (.int .i64 (.lit 0)), (.int .i64 (.lit 0))])]⟩, 4, [(.bi .le (.lit 0) (.var 3)), (.bi .le (.var 3) (.un .len (.var 0))), (.bi .le (.un .len (.var 0)) (.lit 5000))]⟩]
def ssWhere : List ST := [(.goto 1 [(.var 5), (.var 6), (.var 7), (.lit 0)]),
  (.br (.bi .lt (.var 3) (.un .len (.var 0)))
   (.br (.bi .le (.lit 1) (.var 2))
    (.br (.bi .eq (.te .get (.var 0) (.var 3) (.lit 0)) (.var 1))
     (.br (.bi .eq (.te .get (.var 0) (.var 3) (.lit 2)) (.var 2))
      (.ret [(.te .get (.var 0) (.var 3) (.lit 0)), (.te .get (.var 0) (.var 3) (.lit 1)), (.te .get (.var 0) (.var 3) (.lit 2)), (.te .get (.var 0) (.var 3) (.lit 3)), (.te .get (.var 0) (.var 3) (.lit 4)), (.bl true)])
      (.br (.bi .eq (.te .get (.var 0) (.var 3) (.lit 3)) (.var 2))
       (.ret [(.te .get (.var 0) (.var 3) (.lit 0)), (.te .get (.var 0) (.var 3) (.lit 1)), (.te .get (.var 0) (.var 3) (.lit 2)), (.te .get (.var 0) (.var 3) (.lit 3)), (.te .get (.var 0) (.var 3) (.lit 4)), (.bl true)])
       (.goto 1 [(.var 0), (.var 1), (.var 2), (.bi .add (.var 3) (.lit 1))])))
     (.goto 1 [(.var 0), (.var 1), (.var 2), (.bi .add (.var 3) (.lit 1))]))
    (.goto 1 [(.var 0), (.var 1), (.var 2), (.bi .add (.var 3) (.lit 1))]))
   (.ret [(.lit 0), (.lit 0), (.lit 0), (.lit 0), (.lit 0), (.bl false)]))]
set_option maxRecDepth 100000 in
theorem sWhere : tmsWhere.map (summaryF (cx [] [23]) 6000 1 tmsWhere cWhere.rt) = ssWhere := by kernel_rfl

noncomputable def tmsOut : List Tm := [entryTm Try.prog cOut,
  ⟨⟨⟨26, tl 58 [(1, (.int .i64 (.var 1))), (5, (.slice 1 1 (.lit 0) (.un .len (.var 4)) none)), (6, (.ptr 2 (.lit 0) (.lit 0))), (7, (.slice 4 1 (.lit 0) (.un .len (.var 2)) none)), (11, (.slice 0 5 (.lit 0) (.un .len (.var 0)) none)), (12, (.int .i64 (.un .len (.var 0)))), (13, (.int .i64 (.var 3)))], [.at [0, 0, 1, 0, 1, 1], .lp [0, 1, 0, 1, 1], .blk 0, .at [1, 1, 1]], [], none⟩, [], [(.rows true [(.int .i64), (.int .i64), (.int .i64), (.int .i64), (.int .i64)] (.var 0)), (.rows false [(.int .i64)] (.var 4)), (.cells false [(.slice 3 1 (.lit 0) (.un .len (.var 5)) none)]), (.rows false [(.int .i64)] (.var 5)), (.rows false [(.int .i64)] (.var 2))]⟩, 6, [(.bi .le (.lit 0) (.var 3)), (.bi .le (.var 3) (.un .len (.var 0))), (.bi .le (.un .len (.var 0)) (.lit 5000))]⟩,
  ⟨⟨⟨56, tl 19 [(0, (.slice 1 1 (.lit 0) (.un .len (.var 2)) none)), (1, (.func 45 [(.ptr 2 (.lit 0) (.lit 0))])), (7, (.int .i64 (.var 4))), (8, (.int .i64 (.var 8)))], [.at [0, 0, 1, 0, 1], .lp [0, 1, 0, 1], .blk 0, .at [1, 1]], [], none⟩, [⟨44, tl 42 [(0, (.slice 1 1 (.lit 0) (.un .len (.var 2)) none)), (1, (.func 45 [(.ptr 2 (.lit 0) (.lit 0))])), (4, .nils), (8, (.slice 1 1 (.lit 0) (.un .len (.var 2)) none)), (9, (.func 45 [(.ptr 2 (.lit 0) (.lit 0))]))], [.reg [0, 1] 2, .at [1, 1]], [], none⟩, ⟨26, tl 58 [(1, (.int .i64 (.var 1))), (5, (.slice 4 1 (.lit 0) (.un .len (.var 5)) none)), (6, (.ptr 2 (.lit 0) (.lit 0))), (7, (.slice 1 1 (.lit 0) (.un .len (.var 2)) none)), (11, (.slice 0 5 (.lit 0) (.un .len (.var 0)) none)), (12, (.int .i64 (.un .len (.var 0)))), (13, (.int .i64 (.var 6))), (14, (.bool (.var 7))), (51, (.slice 1 1 (.lit 0) (.un .len (.var 2)) none)), (52, (.func 45 [(.ptr 2 (.lit 0) (.lit 0))]))], [.reg [0, 1, 1, 1] 2, .at [1, 1, 1, 1]], [], none⟩], [(.rows true [(.int .i64), (.int .i64), (.int .i64), (.int .i64), (.int .i64)] (.var 0)), (.rows false [(.int .i64)] (.var 2)), (.cells false [(.slice 3 1 (.lit 0) (.un .len (.var 3)) none)]), (.rows false [(.int .i64)] (.var 3)), (.rows false [(.int .i64)] (.var 5))]⟩, 9, [(.bi .eq (.un .len (.var 2)) (.var 4)), (.bi .eq (.un .len (.var 0)) (.var 6)), (.bi .le (.un .len (.var 0)) (.lit 5000))]⟩,
  ⟨⟨⟨44, tl 42 [(0, (.slice 1 1 (.lit 0) (.un .len (.var 2)) none)), (1, (.func 45 [(.ptr 2 (.lit 0) (.lit 0))])), (5, (.int .i64 (.var 7))), (6, (.int .i64 (.var 8)))], [.at [0, 0, 1, 0, 1, 1, 1], .lp [0, 1, 0, 1, 1, 1], .blk 0, .at [1, 1, 1, 1]], [], none⟩, [⟨26, tl 58 [(1, (.int .i64 (.var 1))), (5, (.slice 4 1 (.lit 0) (.un .len (.var 4)) none)), (6, (.ptr 2 (.lit 0) (.lit 0))), (7, (.slice 1 1 (.lit 0) (.un .len (.var 2)) none)), (11, (.slice 0 5 (.lit 0) (.un .len (.var 0)) none)), (12, (.int .i64 (.un .len (.var 0)))), (13, (.int .i64 (.var 5))), (14, (.bool (.var 6))), (51, (.slice 1 1 (.lit 0) (.un .len (.var 2)) none)), (52, (.func 45 [(.ptr 2 (.lit 0) (.lit 0))]))], [.reg [0, 1, 1, 1] 2, .at [1, 1, 1, 1]], [], none⟩], [(.rows true [(.int .i64), (.int .i64), (.int .i64), (.int .i64), (.int .i64)] (.var 0)), (.rows false [(.int .i64)] (.var 2)), (.cells false [(.slice 3 1 (.lit 0) (.un .len (.var 3)) none)]), (.rows false [(.int .i64)] (.var 3)), (.rows false [(.int .i64)] (.var 4))]⟩, 9, [(.bi .eq (.un .len (.var 0)) (.var 5))]⟩]
def ssOut : List ST := [(.goto 1 [(.var 5), (.var 6), .nil, (.lit 0), .nil, .nil]),
  (.br (.bi .lt (.var 3) (.un .len (.var 0)))
   (.br (.un .not (.bi .eq (.te .get (.var 0) (.var 3) (.lit 0)) (.var 1)))
    (.need [(.bi .le (.bi .add (.un .len (.var 2)) (.lit 2)) (.lit 15637498706147))] (.goto 1 [(.var 0), (.var 1), (.bi .snoc (.bi .snoc (.var 2) (.bi .cons (.te .get (.var 0) (.var 3) (.lit 2)) .nil)) (.bi .cons (.te .get (.var 0) (.var 3) (.lit 3)) .nil)), (.bi .add (.var 3) (.lit 1)), (.var 4), (.var 5)]))
    (.need [(.bi .le (.bi .add (.un .len (.var 5)) (.lit 2)) (.lit 15637498706147))] (.br (.bi .eq (.te .get (.var 0) (.var 3) (.lit 2)) (.lit 0))
     (.need [(.bi .le (.bi .add (.un .len (.var 4)) (.lit 2)) (.lit 15637498706147))] (.goto 1 [(.var 0), (.var 1), (.var 2), (.bi .add (.var 3) (.lit 1)), (.bi .snoc (.bi .snoc (.var 4) (.bi .cons (.te .get (.var 0) (.var 3) (.lit 2)) .nil)) (.bi .cons (.te .get (.var 0) (.var 3) (.lit 3)) .nil)), (.bi .snoc (.bi .snoc (.var 5) (.bi .cons (.te .get (.var 0) (.var 3) (.lit 2)) .nil)) (.bi .cons (.te .get (.var 0) (.var 3) (.lit 3)) .nil))]))
     (.br (.bi .eq (.te .get (.var 0) (.var 3) (.lit 3)) (.lit 0))
      (.need [(.bi .le (.bi .add (.un .len (.var 4)) (.lit 2)) (.lit 15637498706147))] (.goto 1 [(.var 0), (.var 1), (.var 2), (.bi .add (.var 3) (.lit 1)), (.bi .snoc (.bi .snoc (.var 4) (.bi .cons (.te .get (.var 0) (.var 3) (.lit 2)) .nil)) (.bi .cons (.te .get (.var 0) (.var 3) (.lit 3)) .nil)), (.bi .snoc (.bi .snoc (.var 5) (.bi .cons (.te .get (.var 0) (.var 3) (.lit 2)) .nil)) (.bi .cons (.te .get (.var 0) (.var 3) (.lit 3)) .nil))]))
      (.goto 1 [(.var 0), (.var 1), (.var 2), (.bi .add (.var 3) (.lit 1)), (.var 4), (.bi .snoc (.bi .snoc (.var 5) (.bi .cons (.te .get (.var 0) (.var 3) (.lit 2)) .nil)) (.bi .cons (.te .get (.var 0) (.var 3) (.lit 3)) .nil))])))))
   (.goto 2 [(.var 0), (.var 1), (.var 2), (.var 5), (.un .len (.var 2)), (.var 4), (.var 3), (.bi .lt (.var 3) (.un .len (.var 0))), (.lit 0)])),
  (.br (.bi .lt (.var 8) (.var 4))
   (.need [(.bi .le (.lit 0) (.var 8))] (.need [(.bi .le (.un .len (.var 3)) (.lit 100000))] (.br (.fn3 10 (.var 3) (.un .len (.var 3)) (.te .get (.var 2) (.var 8) (.lit 0)))
    (.goto 3 [(.var 0), (.var 1), (.var 2), (.var 3), (.var 5), (.var 6), (.var 7), (.var 8), (.un (.wrap .i64) (.bi .add (.var 8) (.lit 1)))])
    (.goto 2 [(.var 0), (.var 1), (.var 2), (.var 3), (.var 4), (.var 5), (.var 6), (.var 7), (.un (.wrap .i64) (.bi .add (.var 8) (.lit 1)))]))))
   (.need [(.bi .le (.bi .add (.un .len (.var 5)) (.un .len (.var 2))) (.lit 15637498706147))] (.need [(.bi .le (.un .len (.bi .app (.var 5) (.var 2))) (.lit 100000))] (.ret [(.fn1 0 (.bi .app (.var 5) (.var 2))), (.fn1 1 (.bi .app (.var 5) (.var 2)))])))),
  (.br (.bi .lt (.var 8) (.un .len (.var 2)))
   (.need [(.bi .le (.lit 0) (.var 8))] (.need [(.bi .le (.un .len (.var 3)) (.lit 100000))] (.br (.un .not (.fn3 10 (.var 3) (.un .len (.var 3)) (.te .get (.var 2) (.var 8) (.lit 0))))
    (.need [(.bi .le (.lit 0) (.var 7)), (.bi .lt (.var 7) (.un .len (.var 2)))] (.goto 3 [(.var 0), (.var 1), (.se (.var 2) (.var 7) (.lit 0) (.te .get (.var 2) (.var 8) (.lit 0))), (.var 3), (.var 4), (.var 5), (.var 6), (.un (.wrap .i64) (.bi .add (.var 7) (.lit 1))), (.un (.wrap .i64) (.bi .add (.var 8) (.lit 1)))]))
    (.goto 3 [(.var 0), (.var 1), (.var 2), (.var 3), (.var 4), (.var 5), (.var 6), (.var 7), (.un (.wrap .i64) (.bi .add (.var 8) (.lit 1)))]))))
   (.need [(.bi .le (.lit 0) (.var 7)), (.bi .le (.var 7) (.un .len (.var 2)))] (.need [(.bi .le (.bi .add (.var 7) (.bi .sub (.un .len (.var 2)) (.var 7))) (.un .len (.var 2)))] (.need [(.bi .le (.var 7) (.bi .add (.bi .add (.var 7) (.un .len (.bi .rep (.bi .sub (.un .len (.var 2)) (.var 7)) (.bi .cons (.lit 0) .nil)))) (.un .len (.bi .drop (.var 2) (.bi .add (.var 7) (.bi .sub (.un .len (.var 2)) (.var 7))))))), (.bi .le (.bi .add (.un .len (.var 4)) (.var 7)) (.lit 15637498706147))] (.need [(.bi .le (.un .len (.bi .app (.var 4) (.bi .take (.bi .app (.bi .app (.bi .take (.var 2) (.var 7)) (.bi .rep (.bi .sub (.un .len (.var 2)) (.var 7)) (.bi .cons (.lit 0) .nil))) (.bi .drop (.var 2) (.bi .add (.var 7) (.bi .sub (.un .len (.var 2)) (.var 7))))) (.var 7)))) (.lit 100000))] (.ret [(.fn1 0 (.bi .app (.var 4) (.bi .take (.bi .app (.bi .app (.bi .take (.var 2) (.var 7)) (.bi .rep (.bi .sub (.un .len (.var 2)) (.var 7)) (.bi .cons (.lit 0) .nil))) (.bi .drop (.var 2) (.bi .add (.var 7) (.bi .sub (.un .len (.var 2)) (.var 7))))) (.var 7)))), (.fn1 1 (.bi .app (.var 4) (.bi .take (.bi .app (.bi .app (.bi .take (.var 2) (.var 7)) (.bi .rep (.bi .sub (.un .len (.var 2)) (.var 7)) (.bi .cons (.lit 0) .nil))) (.bi .drop (.var 2) (.bi .add (.var 7) (.bi .sub (.un .len (.var 2)) (.var 7))))) (.var 7))))]))))))]
set_option maxRecDepth 100000 in
theorem sOut : tmsOut.map (summaryF (cx [cSorted, cHas] [26, 44, 56]) 6000 1 tmsOut cOut.rt) = ssOut := by kernel_rfl

end Go.Proofs.Ytbknfmmoniammaa
