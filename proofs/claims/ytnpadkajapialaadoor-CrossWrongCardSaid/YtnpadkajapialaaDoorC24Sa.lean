/- Chapter 24: the summaries of awake, as the kernel reckons them. -/
import Derived.Test.YtnpadkajapialaaDoorC24S
namespace Go.Proofs.YtnpadkajapialaaDoor
open Go Go.Sx Go.Proofs.C24

noncomputable def tmsAw : List Tm := [entryTm Tryd.prog cAw,
  ⟨⟨⟨11, tl 121 [(100, (.slice 1 2 (.lit 0) (.lit 4) (some (.lit 4)))), (101, (.int .i64 (.lit 4))), (102, (.int .i64 (.var 0)))], [.at [0, 0, 1, 0, 1, 1, 1, 1, 1, 1, 1, 1, 1], .lp [0, 1, 0, 1, 1, 1, 1, 1, 1, 1, 1, 1], .blk 0, .at [1, 1, 1, 1, 1, 1, 1, 1, 1, 1]], [], none⟩, [], [(.rows true [(.int .i64)] GA), (.cells false [(.slice 2 1 (.lit 0) (.lit 1) (some (.lit 1))), (.int .i64 (.lit 10)), (.slice 3 1 (.lit 0) (.lit 1) (some (.lit 1))), (.int .i64 (.lit 10)), (.slice 4 1 (.lit 0) (.lit 1) (some (.lit 1))), (.int .i64 (.lit (-10))), (.slice 5 1 (.lit 0) (.lit 2) (some (.lit 2))), (.int .i64 (.lit 0))]), (.cells false [(.int .i64 (.lit 10))]), (.cells false [(.int .i64 (.lit 5))]), (.cells false [(.int .i64 (.lit (-5)))]), (.cells false [(.int .i64 (.lit 5)), (.int .i64 (.lit 0))])]⟩, 1, [(.bi .le (.lit 0) (.var 0)), (.bi .le (.var 0) (.lit 4))]⟩]
def ssAw : List ST := [(.need [(.bi .le (.un .len (.bi .row (.bi .cons (.lit 420) .nil) (.bi .row (.bi .cons (.lit 420) .nil) (.bi .row (.bi .cons (.lit (-50)) .nil) (.bi .row (.bi .cons (.lit 170) .nil) .nil))))) (.lit 100000))] (.br (.un .not (.bi .eq (.fn1 1 (.bi .row (.bi .cons (.lit 420) .nil) (.bi .row (.bi .cons (.lit 420) .nil) (.bi .row (.bi .cons (.lit (-50)) .nil) (.bi .row (.bi .cons (.lit 170) .nil) .nil))))) (.lit 0)))
   (.ret [(.bl false)])
   (.br (.un .not (.bi .eq (.fn2 4 (.bi .row (.bi .cons (.lit 420) .nil) (.bi .row (.bi .cons (.lit 420) .nil) (.bi .row (.bi .cons (.lit (-50)) .nil) (.bi .row (.bi .cons (.lit 170) .nil) .nil)))) (.lit 0)) (.lit 0)))
    (.ret [(.bl false)])
    (.br (.un .not (.bi .eq (.fn2 4 (.bi .row (.bi .cons (.lit 420) .nil) (.bi .row (.bi .cons (.lit 420) .nil) (.bi .row (.bi .cons (.lit (-50)) .nil) (.bi .row (.bi .cons (.lit 170) .nil) .nil)))) (.lit 1)) (.lit 0)))
     (.ret [(.bl false)])
     (.need [(.bi .le (.un .len (.fn1 2 (.bi .row (.bi .cons (.lit 420) .nil) (.bi .row (.bi .cons (.lit 420) .nil) (.bi .row (.bi .cons (.lit (-50)) .nil) (.bi .row (.bi .cons (.lit 170) .nil) .nil)))))) (.lit 100000))] (.br (.un .not (.fn2 14 (.fn1 2 (.bi .row (.bi .cons (.lit 420) .nil) (.bi .row (.bi .cons (.lit 420) .nil) (.bi .row (.bi .cons (.lit (-50)) .nil) (.bi .row (.bi .cons (.lit 170) .nil) .nil))))) (.bi .row (.bi .cons (.lit 16) (.bi .cons (.lit 3) .nil)) (.bi .row (.bi .cons (.lit 16) (.bi .cons (.lit 3) .nil)) (.bi .row (.bi .cons (.lit (-26)) (.bi .cons (.lit 3) .nil)) (.bi .row (.bi .cons (.lit (-2)) (.bi .cons (.lit 1) .nil)) .nil))))))
      (.ret [(.bl false)])
      (.br (.un .not (.bi .eq (.fn2 3 (.bi .row (.bi .cons (.lit 420) .nil) (.bi .row (.bi .cons (.lit 420) .nil) (.bi .row (.bi .cons (.lit (-50)) .nil) (.bi .row (.bi .cons (.lit 170) .nil) .nil)))) (.lit 0)) (.lit 240)))
       (.ret [(.bl false)])
       (.br (.un .not (.bi .eq (.fn2 3 (.bi .row (.bi .cons (.lit 420) .nil) (.bi .row (.bi .cons (.lit 420) .nil) (.bi .row (.bi .cons (.lit (-50)) .nil) (.bi .row (.bi .cons (.lit 170) .nil) .nil)))) (.lit 1)) (.lit 300)))
        (.ret [(.bl false)])
        (.need [(.bi .le (.un .len (.fn2 5 (.bi .row (.bi .cons (.lit 420) .nil) (.bi .row (.bi .cons (.lit 420) .nil) (.bi .row (.bi .cons (.lit (-50)) .nil) (.bi .row (.bi .cons (.lit 170) .nil) .nil)))) (.lit 0))) (.lit 100000))] (.br (.un .not (.fn2 13 (.fn2 5 (.bi .row (.bi .cons (.lit 420) .nil) (.bi .row (.bi .cons (.lit 420) .nil) (.bi .row (.bi .cons (.lit (-50)) .nil) (.bi .row (.bi .cons (.lit 170) .nil) .nil)))) (.lit 0)) (.bi .row (.bi .cons (.lit 5) .nil) (.bi .row (.bi .cons (.lit 5) .nil) (.bi .row (.bi .cons (.lit (-7)) .nil) (.bi .row (.bi .cons (.lit (-2)) .nil) .nil))))))
         (.ret [(.bl false)])
         (.need [(.bi .le (.un .len (.fn1 3 (.bi .row (.bi .cons (.lit 420) .nil) (.bi .row (.bi .cons (.lit 420) .nil) (.bi .row (.bi .cons (.lit (-50)) .nil) (.bi .row (.bi .cons (.lit 170) .nil) .nil)))))) (.lit 100000))] (.br (.un .not (.fn2 14 (.fn1 3 (.bi .row (.bi .cons (.lit 420) .nil) (.bi .row (.bi .cons (.lit 420) .nil) (.bi .row (.bi .cons (.lit (-50)) .nil) (.bi .row (.bi .cons (.lit 170) .nil) .nil))))) (.bi .row (.bi .cons (.lit 180) (.bi .cons (.lit 1) .nil)) (.bi .row (.bi .cons (.lit 180) (.bi .cons (.lit 1) .nil)) (.bi .row (.bi .cons (.lit (-290)) (.bi .cons (.lit 1) .nil)) (.bi .row (.bi .cons (.lit (-70)) (.bi .cons (.lit 1) .nil)) .nil))))))
          (.ret [(.bl false)])
          (.goto 1 [(.lit 0)]))))))))))))),
  (.br (.bi .lt (.var 0) (.lit 4))
   (.br (.bi .eq (.bi .mul (.var 0) (.lit 2)) (.lit 0))
    (.need [(.bi .le (.un .len (.bi .row (.bi .cons (.lit 10) .nil) .nil)) (.lit 100000))] (.br (.un .not (.bi .eq (.fn2 3 (.bi .row (.bi .cons (.lit 10) .nil) .nil) (.lit 0)) (.lit 10)))
     (.ret [(.bl false)])
     (.br (.un .not (.bi .eq (.fn2 4 (.bi .row (.bi .cons (.lit 10) .nil) .nil) (.lit 0)) (.lit 0)))
      (.ret [(.bl false)])
      (.goto 1 [(.bi .add (.var 0) (.lit 1))]))))
    (.br (.bi .eq (.bi .mul (.var 0) (.lit 2)) (.lit 2))
     (.need [(.bi .le (.un .len (.bi .row (.bi .cons (.lit 5) .nil) .nil)) (.lit 100000))] (.br (.un .not (.bi .eq (.fn2 3 (.bi .row (.bi .cons (.lit 5) .nil) .nil) (.lit 0)) (.lit 10)))
      (.ret [(.bl false)])
      (.br (.un .not (.bi .eq (.fn2 4 (.bi .row (.bi .cons (.lit 5) .nil) .nil) (.lit 0)) (.lit 0)))
       (.ret [(.bl false)])
       (.goto 1 [(.bi .add (.var 0) (.lit 1))]))))
     (.br (.bi .eq (.bi .mul (.var 0) (.lit 2)) (.lit 4))
      (.need [(.bi .le (.un .len (.bi .row (.bi .cons (.lit (-5)) .nil) .nil)) (.lit 100000))] (.br (.un .not (.bi .eq (.fn2 3 (.bi .row (.bi .cons (.lit (-5)) .nil) .nil) (.lit 0)) (.lit (-10))))
       (.ret [(.bl false)])
       (.br (.un .not (.bi .eq (.fn2 4 (.bi .row (.bi .cons (.lit (-5)) .nil) .nil) (.lit 0)) (.lit 0)))
        (.ret [(.bl false)])
        (.goto 1 [(.bi .add (.var 0) (.lit 1))]))))
      (.br (.bi .eq (.bi .mul (.var 0) (.lit 2)) (.lit 6))
       (.need [(.bi .le (.un .len (.bi .row (.bi .cons (.lit 5) .nil) (.bi .row (.bi .cons (.lit 0) .nil) .nil))) (.lit 100000))] (.br (.un .not (.bi .eq (.fn2 3 (.bi .row (.bi .cons (.lit 5) .nil) (.bi .row (.bi .cons (.lit 0) .nil) .nil)) (.lit 0)) (.lit 0)))
        (.ret [(.bl false)])
        (.br (.un .not (.bi .eq (.fn2 4 (.bi .row (.bi .cons (.lit 5) .nil) (.bi .row (.bi .cons (.lit 0) .nil) .nil)) (.lit 0)) (.lit 0)))
         (.ret [(.bl false)])
         (.goto 1 [(.bi .add (.var 0) (.lit 1))]))))
       (.bad 4)))))
   (.ret [(.bl true)]))]
set_option maxRecDepth 100000 in
theorem sAw : tmsAw.map (summaryF (cx [cCross, cDatum, cButler, cPlain, cEqI, cEqF] [11]) 60000 1 tmsAw cAw.rt) = ssAw := by kernel_rfl

end Go.Proofs.YtnpadkajapialaaDoor
