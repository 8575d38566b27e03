/- Chapter 27: the summaries of awake, as the kernel reckons them. -/
import Derived.Test.YtiohgpifeamkhaaC27S
namespace Go.Proofs.Ytiohgpifeamkhaa
open Go Go.Sx Go.Proofs.C27

noncomputable def tmsAw : List Tm := [entryTm Try.prog cAw]
def ssAw : List ST := [(.br (.un .not (.bi .eq (.un (.wrap .i64) (.bi .add (.un (.wrap .i64) (.bi .add (.un (.wrap .i64) (.bi .add (.fn3 0 (.lit 6) (.lit 3) (.lit 1)) (.fn3 0 (.lit 4) (.lit 2) (.lit 1)))) (.fn3 0 (.lit 4) (.lit 2) (.lit 2)))) (.fn3 0 (.lit 3) (.lit 3) (.lit 3)))) (.lit 0)))
   (.ret [(.bl false)])
   (.br (.un .not (.bi .eq (.un .len (.fn3 1 (.lit 6) (.lit 3) (.lit 1))) (.lit 18)))
    (.ret [(.bl false)])
    (.br (.un .not (.bi .eq (.un .len (.fn3 1 (.lit 4) (.lit 2) (.lit 1))) (.lit 8)))
     (.ret [(.bl false)])
     (.br (.un .not (.bi .eq (.un .len (.fn3 1 (.lit 4) (.lit 2) (.lit 2))) (.lit 8)))
      (.ret [(.bl false)])
      (.br (.un .not (.bi .eq (.un .len (.fn3 1 (.lit 3) (.lit 3) (.lit 3))) (.lit 9)))
       (.ret [(.bl false)])
       (.need [(.bi .le (.un .len (.fn2 2 (.fn3 1 (.lit 6) (.lit 3) (.lit 1)) (.lit 0))) (.lit 5000))] (.br (.un .not (.fn2 13 (.fn2 2 (.fn3 1 (.lit 6) (.lit 3) (.lit 1)) (.lit 0)) (.bi .row (.bi .cons (.lit 0) .nil) (.bi .row (.bi .cons (.lit 1) .nil) (.bi .row (.bi .cons (.lit 2) .nil) (.bi .row (.bi .cons (.lit 0) .nil) (.bi .row (.bi .cons (.lit 1) .nil) (.bi .row (.bi .cons (.lit 2) .nil) .nil))))))))
        (.ret [(.bl false)])
        (.need [(.bi .le (.un .len (.fn2 2 (.fn3 1 (.lit 6) (.lit 3) (.lit 1)) (.lit 1))) (.lit 5000))] (.br (.un .not (.fn2 13 (.fn2 2 (.fn3 1 (.lit 6) (.lit 3) (.lit 1)) (.lit 1)) (.bi .row (.bi .cons (.lit 1) .nil) (.bi .row (.bi .cons (.lit 2) .nil) (.bi .row (.bi .cons (.lit 0) .nil) (.bi .row (.bi .cons (.lit 1) .nil) (.bi .row (.bi .cons (.lit 2) .nil) (.bi .row (.bi .cons (.lit 0) .nil) .nil))))))))
         (.ret [(.bl false)])
         (.br (.un .not (.bi .eq (.te .get (.fn3 1 (.lit 6) (.lit 3) (.lit 1)) (.lit 6) (.lit 3)) (.lit 12)))
          (.ret [(.bl false)])
          (.need [(.bi .le (.un .len (.fn2 2 (.fn3 1 (.lit 4) (.lit 2) (.lit 1)) (.lit 0))) (.lit 5000))] (.br (.un .not (.fn2 13 (.fn2 2 (.fn3 1 (.lit 4) (.lit 2) (.lit 1)) (.lit 0)) (.bi .row (.bi .cons (.lit 0) .nil) (.bi .row (.bi .cons (.lit 1) .nil) (.bi .row (.bi .cons (.lit 2) .nil) (.bi .row (.bi .cons (.lit 0) .nil) .nil))))))
           (.ret [(.bl false)])
           (.need [(.bi .le (.un .len (.fn2 2 (.fn3 1 (.lit 4) (.lit 2) (.lit 1)) (.lit 1))) (.lit 5000))] (.br (.un .not (.fn2 13 (.fn2 2 (.fn3 1 (.lit 4) (.lit 2) (.lit 1)) (.lit 1)) (.bi .row (.bi .cons (.lit 1) .nil) (.bi .row (.bi .cons (.lit 2) .nil) (.bi .row (.bi .cons (.lit 0) .nil) (.bi .row (.bi .cons (.lit 1) .nil) .nil))))))
            (.ret [(.bl false)])
            (.need [(.bi .le (.un .len (.fn2 2 (.fn3 1 (.lit 4) (.lit 2) (.lit 2)) (.lit 1))) (.lit 5000))] (.br (.un .not (.fn2 13 (.fn2 2 (.fn3 1 (.lit 4) (.lit 2) (.lit 2)) (.lit 1)) (.bi .row (.bi .cons (.lit 1) .nil) (.bi .row (.bi .cons (.lit 2) .nil) (.bi .row (.bi .cons (.lit 0) .nil) (.bi .row (.bi .cons (.lit 1) .nil) .nil))))))
             (.ret [(.bl false)])
             (.br (.un .not (.bi .eq (.fn2 0 (.lit 4) (.lit 2)) (.lit 2)))
              (.ret [(.bl false)])
              (.br (.un .not (.bi .eq (.fn2 1 (.lit 4) (.lit 2)) (.lit 0)))
               (.ret [(.bl false)])
               (.br (.un .not (.bi .eq (.fn2 1 (.lit 2) (.lit 2)) (.lit 6)))
                (.ret [(.bl false)])
                (.br (.un .not (.bi .eq (.fn2 1 (.lit 5) (.lit 1)) (.lit 6)))
                 (.ret [(.bl false)])
                 (.need [(.bi .le (.un .len (.fn3 10 (.fn3 4 (.lit 4) (.lit 2) (.lit 2)) (.fn3 1 (.lit 4) (.lit 2) (.lit 2)) (.lit 1))) (.lit 5000))] (.br (.un .not (.fn2 13 (.fn3 10 (.fn3 4 (.lit 4) (.lit 2) (.lit 2)) (.fn3 1 (.lit 4) (.lit 2) (.lit 2)) (.lit 1)) (.bi .row (.bi .cons (.lit 1) .nil) (.bi .row (.bi .cons (.lit 2) .nil) (.bi .row (.bi .cons (.lit 1) .nil) .nil)))))
                  (.ret [(.bl false)])
                  (.need [(.bi .le (.un .len (.fn2 16 (.fn3 1 (.lit 4) (.lit 2) (.lit 2)) (.lit 1))) (.lit 1))] (.br (.un .not (.fn2 14 (.fn2 16 (.fn3 1 (.lit 4) (.lit 2) (.lit 2)) (.lit 1)) (.bi .row (.bi .cons (.lit 0) (.bi .cons (.lit 3) .nil)) .nil)))
                   (.ret [(.bl false)])
                   (.need [(.bi .le (.un .len (.fn3 13 (.fn3 1 (.lit 4) (.lit 2) (.lit 2)) (.lit 1) (.lit 0))) (.lit 1))] (.br (.un .not (.fn2 13 (.fn3 13 (.fn3 1 (.lit 4) (.lit 2) (.lit 2)) (.lit 1) (.lit 0)) (.bi .row (.bi .cons (.lit 1) .nil) .nil)))
                    (.ret [(.bl false)])
                    (.br (.un .not (.bi .eq (.un .len (.fn3 11 (.fn3 4 (.lit 4) (.lit 2) (.lit 2)) (.fn3 1 (.lit 4) (.lit 2) (.lit 2)) (.lit 1))) (.lit 0)))
                     (.ret [(.bl false)])
                     (.need [(.bi .le (.un .len (.fn2 2 (.fn3 1 (.lit 3) (.lit 3) (.lit 3)) (.lit 2))) (.lit 5000))] (.br (.fn2 13 (.fn2 2 (.fn3 1 (.lit 3) (.lit 3) (.lit 3)) (.lit 2)) (.bi .row (.bi .cons (.lit 2) .nil) (.bi .row (.bi .cons (.lit 2) .nil) (.bi .row (.bi .cons (.lit 2) .nil) .nil))))
                      (.br (.bi .eq (.fn1 0 (.fn3 1 (.lit 3) (.lit 3) (.lit 3))) (.lit 3))
                       (.need [(.bi .le (.un .len (.fn3 11 (.fn3 4 (.lit 3) (.lit 3) (.lit 3)) (.fn3 1 (.lit 3) (.lit 3) (.lit 3)) (.lit 2))) (.lit 5000))] (.ret [(.fn2 13 (.fn3 11 (.fn3 4 (.lit 3) (.lit 3) (.lit 3)) (.fn3 1 (.lit 3) (.lit 3) (.lit 3)) (.lit 2)) (.bi .row (.bi .cons (.lit 0) .nil) (.bi .row (.bi .cons (.lit 1) .nil) .nil)))]))
                       (.ret [(.bl false)]))
                      (.ret [(.bl false)]))))))))))))))))))))))))))))))]
set_option maxRecDepth 100000 in
theorem sAw : tmsAw.map (summaryF (cx [cMake, cMost, cSets, cEq1, cLoads, cShared, cEq2, cFeeds, cIdle, cCopies] [12]) 60000 0 tmsAw cAw.rt) = ssAw := by kernel_rfl

end Go.Proofs.Ytiohgpifeamkhaa
