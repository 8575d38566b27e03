/- Chapter 24: the summaries of the laws, as the kernel reckons them. -/
import Derived.Test.YtnpadkajapialaaDoorC24S
namespace Go.Proofs.YtnpadkajapialaaDoor
open Go Go.Sx Go.Proofs.C24

noncomputable def tmsLDatum : List Tm := [entryTm Tryd.prog cLDatum,
  ⟨⟨⟨6, tl 174 [(1, (.int .u8 (.var 1))), (5, (.slice 2 1 (.lit 0) (.un .len (.var 3)) none)), (25, (.int .i64 (.un .len (.fn1 4 (.var 0))))), (26, (.int .i64 (.var 2)))], [.at [0, 0, 1, 0, 1, 1, 1], .lp [0, 1, 0, 1, 1, 1], .blk 0, .at [1, 1, 1, 1]], [], none⟩, [], [(.rows true [(.int .i64)] GA), (.rows true [(.int .i16)] (.var 0)), (.rows false [(.int .i64)] (.var 3))]⟩, 4, [(.bi .le (.lit 0) (.var 1)), (.un .not (.bi .eq (.un .len (.fn1 4 (.var 0))) (.lit 0))), (.te .elems (.var 0) (.lit (-32768)) (.lit 32767)), (.bi .le (.var 1) (.lit 255))]⟩,
  ⟨⟨⟨6, tl 174 [(1, (.int .u8 (.var 1))), (5, (.slice 2 1 (.lit 0) (.un .len (.var 3)) none)), (7, (.int .i64 (.var 2))), (25, (.int .i64 (.un .len (.fn1 4 (.var 0))))), (26, (.int .i64 (.var 4)))], [.at [0, 0, 1, 1, 0, 0, 1, 1, 0, 0, 1, 0, 1, 1, 1], .lp [0, 1, 1, 0, 0, 1, 1, 0, 0, 1, 0, 1, 1, 1], .blk 2, .blk 1, .at [1, 1, 1, 0, 0, 1, 0, 1, 1, 1], .lp [0, 1, 0, 1, 1, 1], .blk 0, .at [1, 1, 1, 1]], [], none⟩, [], [(.rows true [(.int .i64)] GA), (.rows true [(.int .i16)] (.var 0)), (.rows false [(.int .i64)] (.var 3))]⟩, 5, [(.bi .le (.lit 0) (.var 1)), (.un .not (.bi .eq (.un .len (.fn1 4 (.var 0))) (.lit 0))), (.te .elems (.var 0) (.lit (-32768)) (.lit 32767)), (.bi .le (.var 1) (.lit 255))]⟩,
  ⟨⟨⟨6, tl 174 [(9, (.int .i64 (.var 1))), (11, (.slice 2 1 (.var 2) (.var 3) none)), (14, (.int .i64 (.var 4))), (104, (.slice 2 1 (.var 2) (.var 3) none)), (105, (.int .i64 (.var 3))), (106, (.int .i64 (.var 5)))], [.at [0, 0, 1, 0, 1, 1, 1, 1, 1, 1, 1, 1, 1, 1], .lp [0, 1, 0, 1, 1, 1, 1, 1, 1, 1, 1, 1, 1], .blk 4, .at [1, 1, 1, 1, 1, 1, 1, 1, 1, 1, 1]], [], none⟩, [], [(.rows true [(.int .i64)] GA), (.rows true [(.int .i16)] (.var 0)), (.rows false [(.int .i64)] (.var 6))]⟩, 7, [(.bi .le (.un .len (.var 6)) (.lit 100000)), (.te .elems (.var 0) (.lit (-32768)) (.lit 32767))]⟩]
def ssLDatum : List ST := [(.br (.bi .eq (.un .len (.fn1 4 (.var 0))) (.lit 0))
   (.ret [(.bl true)])
   (.goto 1 [(.var 0), (.var 1), (.lit 0), (.fn1 4 (.var 0))])),
  (.br (.bi .lt (.var 2) (.un .len (.fn1 4 (.var 0))))
   (.goto 2 [(.var 0), (.var 1), (.var 2), (.var 3), (.var 2)])
   (.need [(.un .not (.bi .eq (.bi .quo (.un (.wrap .i64) (.bi .add (.un .len (.var 3)) (.lit 1))) (.lit 2)) (.lit 0)))] (.need [(.bi .le (.un .len (.var 3)) (.lit 100000))] (.need [(.bi .le (.lit 0) (.bi .rem (.var 1) (.bi .quo (.un (.wrap .i64) (.bi .add (.un .len (.var 3)) (.lit 1))) (.lit 2)))), (.bi .le (.bi .rem (.var 1) (.bi .quo (.un (.wrap .i64) (.bi .add (.un .len (.var 3)) (.lit 1))) (.lit 2))) (.un (.wrap .i64) (.bi .sub (.un .len (.var 3)) (.bi .rem (.var 1) (.bi .quo (.un (.wrap .i64) (.bi .add (.un .len (.var 3)) (.lit 1))) (.lit 2)))))), (.bi .le (.un (.wrap .i64) (.bi .sub (.un .len (.var 3)) (.bi .rem (.var 1) (.bi .quo (.un (.wrap .i64) (.bi .add (.un .len (.var 3)) (.lit 1))) (.lit 2))))) (.un .len (.var 3)))] (.need [(.bi .le (.lit 0) (.bi .sub (.un (.wrap .i64) (.bi .sub (.un .len (.var 3)) (.bi .rem (.var 1) (.bi .quo (.un (.wrap .i64) (.bi .add (.un .len (.var 3)) (.lit 1))) (.lit 2))))) (.bi .rem (.var 1) (.bi .quo (.un (.wrap .i64) (.bi .add (.un .len (.var 3)) (.lit 1))) (.lit 2))))), (.bi .le (.bi .add (.bi .rem (.var 1) (.bi .quo (.un (.wrap .i64) (.bi .add (.un .len (.var 3)) (.lit 1))) (.lit 2))) (.bi .sub (.un (.wrap .i64) (.bi .sub (.un .len (.var 3)) (.bi .rem (.var 1) (.bi .quo (.un (.wrap .i64) (.bi .add (.un .len (.var 3)) (.lit 1))) (.lit 2))))) (.bi .rem (.var 1) (.bi .quo (.un (.wrap .i64) (.bi .add (.un .len (.var 3)) (.lit 1))) (.lit 2))))) (.un .len (.var 3))), (.bi .le (.un .len (.bi .take (.bi .drop (.var 3) (.bi .rem (.var 1) (.bi .quo (.un (.wrap .i64) (.bi .add (.un .len (.var 3)) (.lit 1))) (.lit 2)))) (.bi .sub (.un (.wrap .i64) (.bi .sub (.un .len (.var 3)) (.bi .rem (.var 1) (.bi .quo (.un (.wrap .i64) (.bi .add (.un .len (.var 3)) (.lit 1))) (.lit 2))))) (.bi .rem (.var 1) (.bi .quo (.un (.wrap .i64) (.bi .add (.un .len (.var 3)) (.lit 1))) (.lit 2)))))) (.lit 100000))] (.br (.un .not (.bi .eq (.fn2 4 (.var 3) (.bi .rem (.var 1) (.bi .quo (.un (.wrap .i64) (.bi .add (.un .len (.var 3)) (.lit 1))) (.lit 2)))) (.lit 0)))
    (.ret [(.bl false)])
    (.br (.un .not (.bi .eq (.fn2 4 (.bi .take (.bi .drop (.var 3) (.bi .rem (.var 1) (.bi .quo (.un (.wrap .i64) (.bi .add (.un .len (.var 3)) (.lit 1))) (.lit 2)))) (.bi .sub (.un (.wrap .i64) (.bi .sub (.un .len (.var 3)) (.bi .rem (.var 1) (.bi .quo (.un (.wrap .i64) (.bi .add (.un .len (.var 3)) (.lit 1))) (.lit 2))))) (.bi .rem (.var 1) (.bi .quo (.un (.wrap .i64) (.bi .add (.un .len (.var 3)) (.lit 1))) (.lit 2))))) (.lit 0)) (.lit 0)))
     (.ret [(.bl false)])
     (.br (.un .not (.bi .eq (.fn2 3 (.var 3) (.bi .rem (.var 1) (.bi .quo (.un (.wrap .i64) (.bi .add (.un .len (.var 3)) (.lit 1))) (.lit 2)))) (.fn2 3 (.bi .take (.bi .drop (.var 3) (.bi .rem (.var 1) (.bi .quo (.un (.wrap .i64) (.bi .add (.un .len (.var 3)) (.lit 1))) (.lit 2)))) (.bi .sub (.un (.wrap .i64) (.bi .sub (.un .len (.var 3)) (.bi .rem (.var 1) (.bi .quo (.un (.wrap .i64) (.bi .add (.un .len (.var 3)) (.lit 1))) (.lit 2))))) (.bi .rem (.var 1) (.bi .quo (.un (.wrap .i64) (.bi .add (.un .len (.var 3)) (.lit 1))) (.lit 2))))) (.lit 0))))
      (.ret [(.bl false)])
      (.br (.un .not (.bi .eq (.bi .rem (.fn2 3 (.var 3) (.bi .rem (.var 1) (.bi .quo (.un (.wrap .i64) (.bi .add (.un .len (.var 3)) (.lit 1))) (.lit 2)))) (.lit 10)) (.lit 0)))
       (.ret [(.bl false)])
       (.goto 3 [(.var 0), (.fn2 3 (.var 3) (.bi .rem (.var 1) (.bi .quo (.un (.wrap .i64) (.bi .add (.un .len (.var 3)) (.lit 1))) (.lit 2)))), (.bi .rem (.var 1) (.bi .quo (.un (.wrap .i64) (.bi .add (.un .len (.var 3)) (.lit 1))) (.lit 2))), (.bi .sub (.un (.wrap .i64) (.bi .sub (.un .len (.var 3)) (.bi .rem (.var 1) (.bi .quo (.un (.wrap .i64) (.bi .add (.un .len (.var 3)) (.lit 1))) (.lit 2))))) (.bi .rem (.var 1) (.bi .quo (.un (.wrap .i64) (.bi .add (.un .len (.var 3)) (.lit 1))) (.lit 2)))), (.lit 0), (.lit 0), (.var 3)])))))))))),
  (.br (.bi .lt (.lit 0) (.var 2))
   (.need [(.bi .lt (.var 2) (.un .len (.var 3))), (.bi .lt (.var 2) (.un .len (.var 3))), (.bi .le (.lit 0) (.un (.wrap .i64) (.bi .add (.var 2) (.lit (-1))))), (.bi .lt (.un (.wrap .i64) (.bi .add (.var 2) (.lit (-1)))) (.un .len (.var 3))), (.bi .le (.lit 0) (.un (.wrap .i64) (.bi .add (.var 2) (.lit (-1))))), (.bi .lt (.un (.wrap .i64) (.bi .add (.var 2) (.lit (-1)))) (.un .len (.var 3)))] (.br (.bi .lt (.te .get (.var 3) (.var 2) (.lit 0)) (.te .get (.var 3) (.un (.wrap .i64) (.bi .add (.var 2) (.lit (-1)))) (.lit 0)))
    (.goto 2 [(.var 0), (.var 1), (.un (.wrap .i64) (.bi .add (.var 2) (.lit (-1)))), (.se (.se (.var 3) (.var 2) (.lit 0) (.te .get (.var 3) (.un (.wrap .i64) (.bi .add (.var 2) (.lit (-1)))) (.lit 0))) (.un (.wrap .i64) (.bi .add (.var 2) (.lit (-1)))) (.lit 0) (.te .get (.var 3) (.var 2) (.lit 0))), (.var 4)])
    (.goto 1 [(.var 0), (.var 1), (.un (.wrap .i64) (.bi .add (.var 4) (.lit 1))), (.var 3)])))
   (.goto 1 [(.var 0), (.var 1), (.un (.wrap .i64) (.bi .add (.var 4) (.lit 1))), (.var 3)])),
  (.br (.bi .lt (.var 5) (.var 3))
   (.need [(.bi .le (.lit 0) (.var 5))] (.need [(.bi .le (.lit 0) (.bi .add (.var 2) (.var 5))), (.bi .lt (.bi .add (.var 2) (.var 5)) (.un .len (.var 6)))] (.goto 3 [(.var 0), (.var 1), (.var 2), (.var 3), (.un (.wrap .i64) (.bi .add (.var 4) (.te .get (.var 6) (.bi .add (.var 2) (.var 5)) (.lit 0)))), (.un (.wrap .i64) (.bi .add (.var 5) (.lit 1))), (.var 6)])))
   (.br (.bi .lt (.un (.wrap .i64) (.bi .sub (.un (.wrap .i64) (.bi .mul (.var 1) (.var 3))) (.var 4))) (.un (.wrap .i64) (.bi .mul (.lit (-5)) (.var 3))))
    (.ret [(.bl false)])
    (.br (.bi .lt (.un (.wrap .i64) (.bi .mul (.lit 5) (.var 3))) (.un (.wrap .i64) (.bi .sub (.un (.wrap .i64) (.bi .mul (.var 1) (.var 3))) (.var 4))))
     (.ret [(.bl false)])
     (.br (.bi .eq (.un (.wrap .i64) (.bi .sub (.un (.wrap .i64) (.bi .mul (.var 1) (.var 3))) (.var 4))) (.un (.wrap .i64) (.bi .mul (.lit (-5)) (.var 3))))
      (.br (.bi .lt (.lit 0) (.var 4))
       (.ret [(.bl false)])
       (.br (.bi .eq (.un (.wrap .i64) (.bi .sub (.un (.wrap .i64) (.bi .mul (.var 1) (.var 3))) (.var 4))) (.un (.wrap .i64) (.bi .mul (.lit 5) (.var 3))))
        (.br (.bi .lt (.var 4) (.lit 0))
         (.ret [(.bl false)])
         (.need [(.bi .lt (.lit 0) (.var 3))] (.need [(.bi .le (.lit 0) (.var 2)), (.bi .lt (.var 2) (.un .len (.var 6)))] (.br (.bi .le (.un (.wrap .i64) (.bi .add (.te .get (.var 6) (.var 2) (.lit 0)) (.lit (-9)))) (.var 1))
          (.need [(.bi .le (.lit 0) (.un (.wrap .i64) (.bi .add (.var 3) (.lit (-1))))), (.bi .lt (.un (.wrap .i64) (.bi .add (.var 3) (.lit (-1)))) (.var 3))] (.need [(.bi .lt (.bi .add (.var 2) (.un (.wrap .i64) (.bi .add (.var 3) (.lit (-1))))) (.un .len (.var 6)))] (.br (.bi .le (.var 1) (.un (.wrap .i64) (.bi .add (.te .get (.var 6) (.bi .add (.var 2) (.un (.wrap .i64) (.bi .add (.var 3) (.lit (-1))))) (.lit 0)) (.lit 9))))
           (.ret [(.bl true)])
           (.ret [(.bl false)]))))
          (.ret [(.bl false)])))))
        (.need [(.bi .lt (.lit 0) (.var 3))] (.need [(.bi .le (.lit 0) (.var 2)), (.bi .lt (.var 2) (.un .len (.var 6)))] (.br (.bi .le (.un (.wrap .i64) (.bi .add (.te .get (.var 6) (.var 2) (.lit 0)) (.lit (-9)))) (.var 1))
         (.need [(.bi .le (.lit 0) (.un (.wrap .i64) (.bi .add (.var 3) (.lit (-1))))), (.bi .lt (.un (.wrap .i64) (.bi .add (.var 3) (.lit (-1)))) (.var 3))] (.need [(.bi .lt (.bi .add (.var 2) (.un (.wrap .i64) (.bi .add (.var 3) (.lit (-1))))) (.un .len (.var 6)))] (.br (.bi .le (.var 1) (.un (.wrap .i64) (.bi .add (.te .get (.var 6) (.bi .add (.var 2) (.un (.wrap .i64) (.bi .add (.var 3) (.lit (-1))))) (.lit 0)) (.lit 9))))
          (.ret [(.bl true)])
          (.ret [(.bl false)]))))
         (.ret [(.bl false)]))))))
      (.br (.bi .eq (.un (.wrap .i64) (.bi .sub (.un (.wrap .i64) (.bi .mul (.var 1) (.var 3))) (.var 4))) (.un (.wrap .i64) (.bi .mul (.lit 5) (.var 3))))
       (.br (.bi .lt (.var 4) (.lit 0))
        (.ret [(.bl false)])
        (.need [(.bi .lt (.lit 0) (.var 3))] (.need [(.bi .le (.lit 0) (.var 2)), (.bi .lt (.var 2) (.un .len (.var 6)))] (.br (.bi .le (.un (.wrap .i64) (.bi .add (.te .get (.var 6) (.var 2) (.lit 0)) (.lit (-9)))) (.var 1))
         (.need [(.bi .le (.lit 0) (.un (.wrap .i64) (.bi .add (.var 3) (.lit (-1))))), (.bi .lt (.un (.wrap .i64) (.bi .add (.var 3) (.lit (-1)))) (.var 3))] (.need [(.bi .lt (.bi .add (.var 2) (.un (.wrap .i64) (.bi .add (.var 3) (.lit (-1))))) (.un .len (.var 6)))] (.br (.bi .le (.var 1) (.un (.wrap .i64) (.bi .add (.te .get (.var 6) (.bi .add (.var 2) (.un (.wrap .i64) (.bi .add (.var 3) (.lit (-1))))) (.lit 0)) (.lit 9))))
          (.ret [(.bl true)])
          (.ret [(.bl false)]))))
         (.ret [(.bl false)])))))
       (.need [(.bi .lt (.lit 0) (.var 3))] (.need [(.bi .le (.lit 0) (.var 2)), (.bi .lt (.var 2) (.un .len (.var 6)))] (.br (.bi .le (.un (.wrap .i64) (.bi .add (.te .get (.var 6) (.var 2) (.lit 0)) (.lit (-9)))) (.var 1))
        (.need [(.bi .le (.lit 0) (.un (.wrap .i64) (.bi .add (.var 3) (.lit (-1))))), (.bi .lt (.un (.wrap .i64) (.bi .add (.var 3) (.lit (-1)))) (.var 3))] (.need [(.bi .lt (.bi .add (.var 2) (.un (.wrap .i64) (.bi .add (.var 3) (.lit (-1))))) (.un .len (.var 6)))] (.br (.bi .le (.var 1) (.un (.wrap .i64) (.bi .add (.te .get (.var 6) (.bi .add (.var 2) (.un (.wrap .i64) (.bi .add (.var 3) (.lit (-1))))) (.lit 0)) (.lit 9))))
         (.ret [(.bl true)])
         (.ret [(.bl false)]))))
        (.ret [(.bl false)])))))))))]
set_option maxRecDepth 100000 in
theorem sLDatum : tmsLDatum.map (summaryF (cx [cScores, cDatum, cDatumP, cAw] [6]) 6000 2 tmsLDatum cLDatum.rt) = ssLDatum := by kernel_rfl

noncomputable def tmsLTurned : List Tm := [entryTm Tryd.prog cLTurned,
  ⟨⟨⟨5, tl 223 [(1, (.int .u8 (.var 1))), (5, (.slice 2 1 (.lit 0) (.un .len (.fn1 4 (.var 0))) none)), (6, (.slice 3 1 (.lit 0) (.un .len (.var 2)) none)), (29, (.slice 2 1 (.lit 0) (.un .len (.fn1 4 (.var 0))) none)), (30, (.int .i64 (.un .len (.fn1 4 (.var 0))))), (31, (.int .i64 (.var 3)))], [.at [0, 0, 1, 0, 1, 1, 1, 1], .lp [0, 1, 0, 1, 1, 1, 1], .blk 0, .at [1, 1, 1, 1, 1]], [], none⟩, [], [(.rows true [(.int .i64)] GA), (.rows true [(.int .i16)] (.var 0)), (.rows false [(.int .i64)] (.fn1 4 (.var 0))), (.rows false [(.int .i64)] (.var 2))]⟩, 4, [(.bi .le (.lit 0) (.var 1)), (.un .not (.bi .eq (.un .len (.fn1 4 (.var 0))) (.lit 0))), (.te .elems (.var 0) (.lit (-32768)) (.lit 32767)), (.bi .le (.var 1) (.lit 255))]⟩,
  ⟨⟨⟨5, tl 223 [(10, (.slice 2 2 (.lit 0) (.un .len (.fn1 2 (.fn1 4 (.var 0)))) none)), (12, (.slice 3 2 (.lit 0) (.un .len (.var 1)) none)), (14, (.slice 4 2 (.lit 0) (.un .len (.fn1 3 (.fn1 4 (.var 0)))) none)), (16, (.slice 5 2 (.lit 0) (.un .len (.var 2)) none)), (18, (.slice 6 1 (.lit 0) (.un .len (.var 3)) none)), (19, (.slice 7 1 (.lit 0) (.un .len (.var 4)) none)), (169, (.int .i64 (.un .len (.fn1 4 (.var 0))))), (170, (.int .i64 (.var 5)))], [.at [0, 0, 1, 0, 1, 1, 1, 1, 1, 1, 1, 1, 1, 1, 1, 1, 1, 1, 1, 1], .lp [0, 1, 0, 1, 1, 1, 1, 1, 1, 1, 1, 1, 1, 1, 1, 1, 1, 1, 1], .blk 2, .at [1, 1, 1, 1, 1, 1, 1, 1, 1, 1, 1, 1, 1, 1, 1, 1, 1]], [], none⟩, [], [(.rows true [(.int .i64)] GA), (.rows true [(.int .i16)] (.var 0)), (.rows false [(.int .i64), (.int .i64)] (.fn1 2 (.fn1 4 (.var 0)))), (.rows false [(.int .i64), (.int .i64)] (.var 1)), (.rows false [(.int .i64), (.int .i64)] (.fn1 3 (.fn1 4 (.var 0)))), (.rows false [(.int .i64), (.int .i64)] (.var 2)), (.rows false [(.int .i64)] (.var 3)), (.rows false [(.int .i64)] (.var 4))]⟩, 6, [(.bi .eq (.un .len (.var 1)) (.un .len (.var 2))), (.bi .eq (.un .len (.var 1)) (.un .len (.var 3))), (.bi .eq (.un .len (.var 1)) (.un .len (.var 4))), (.bi .eq (.un .len (.fn1 3 (.fn1 4 (.var 0)))) (.un .len (.fn1 4 (.var 0)))), (.bi .eq (.un .len (.fn1 2 (.fn1 4 (.var 0)))) (.un .len (.fn1 4 (.var 0)))), (.bi .eq (.fn1 1 (.fn1 4 (.var 0))) (.lit 0)), (.te .elems (.var 0) (.lit (-32768)) (.lit 32767))]⟩]
def ssLTurned : List ST := [(.br (.bi .eq (.un .len (.fn1 4 (.var 0))) (.lit 0))
   (.ret [(.bl true)])
   (.goto 1 [(.var 0), (.var 1), .nil, (.lit 0)])),
  (.br (.bi .lt (.var 3) (.un .len (.fn1 4 (.var 0))))
   (.need [(.bi .le (.lit 0) (.var 3))] (.need [(.bi .le (.bi .add (.un .len (.var 2)) (.lit 1)) (.lit 15637498706147))] (.goto 1 [(.var 0), (.var 1), (.bi .snoc (.var 2) (.bi .cons (.un (.wrap .i64) (.bi .sub (.lit 0) (.te .get (.fn1 4 (.var 0)) (.var 3) (.lit 0)))) .nil)), (.un (.wrap .i64) (.bi .add (.var 3) (.lit 1)))])))
   (.need [(.un .not (.bi .eq (.bi .quo (.un (.wrap .i64) (.bi .add (.un .len (.fn1 4 (.var 0))) (.lit 1))) (.lit 2)) (.lit 0)))] (.need [(.bi .le (.un .len (.fn1 4 (.var 0))) (.lit 100000))] (.need [(.bi .le (.un .len (.var 2)) (.lit 100000))] (.br (.un .not (.bi .eq (.fn1 1 (.fn1 4 (.var 0))) (.lit 0)))
    (.ret [(.bl false)])
    (.br (.un .not (.bi .eq (.fn1 1 (.var 2)) (.lit 0)))
     (.ret [(.bl false)])
     (.br (.un .not (.bi .eq (.fn2 4 (.fn1 4 (.var 0)) (.bi .rem (.var 1) (.bi .quo (.un (.wrap .i64) (.bi .add (.un .len (.fn1 4 (.var 0))) (.lit 1))) (.lit 2)))) (.lit 0)))
      (.ret [(.bl false)])
      (.br (.un .not (.bi .eq (.fn2 4 (.var 2) (.bi .rem (.var 1) (.bi .quo (.un (.wrap .i64) (.bi .add (.un .len (.fn1 4 (.var 0))) (.lit 1))) (.lit 2)))) (.lit 0)))
       (.ret [(.bl false)])
       (.br (.un .not (.bi .eq (.fn2 3 (.fn1 4 (.var 0)) (.bi .rem (.var 1) (.bi .quo (.un (.wrap .i64) (.bi .add (.un .len (.fn1 4 (.var 0))) (.lit 1))) (.lit 2)))) (.un (.wrap .i64) (.bi .sub (.lit 0) (.fn2 3 (.var 2) (.bi .rem (.var 1) (.bi .quo (.un (.wrap .i64) (.bi .add (.un .len (.fn1 4 (.var 0))) (.lit 1))) (.lit 2))))))))
        (.ret [(.bl false)])
        (.br (.un .not (.bi .eq (.un .len (.fn1 2 (.fn1 4 (.var 0)))) (.un .len (.fn1 4 (.var 0)))))
         (.ret [(.bl false)])
         (.br (.un .not (.bi .eq (.un .len (.fn1 3 (.fn1 4 (.var 0)))) (.un .len (.fn1 4 (.var 0)))))
          (.ret [(.bl false)])
          (.br (.un .not (.bi .eq (.un .len (.fn2 5 (.fn1 4 (.var 0)) (.bi .rem (.var 1) (.bi .quo (.un (.wrap .i64) (.bi .add (.un .len (.fn1 4 (.var 0))) (.lit 1))) (.lit 2))))) (.un .len (.fn1 4 (.var 0)))))
           (.ret [(.bl false)])
           (.br (.un .not (.bi .eq (.un .len (.fn1 2 (.var 2))) (.un .len (.fn1 4 (.var 0)))))
            (.ret [(.bl false)])
            (.br (.un .not (.bi .eq (.un .len (.fn1 3 (.var 2))) (.un .len (.fn1 4 (.var 0)))))
             (.ret [(.bl false)])
             (.br (.un .not (.bi .eq (.un .len (.fn2 5 (.var 2) (.bi .rem (.var 1) (.bi .quo (.un (.wrap .i64) (.bi .add (.un .len (.fn1 4 (.var 0))) (.lit 1))) (.lit 2))))) (.un .len (.fn1 4 (.var 0)))))
              (.ret [(.bl false)])
              (.goto 2 [(.var 0), (.fn1 2 (.var 2)), (.fn1 3 (.var 2)), (.fn2 5 (.fn1 4 (.var 0)) (.bi .rem (.var 1) (.bi .quo (.un (.wrap .i64) (.bi .add (.un .len (.fn1 4 (.var 0))) (.lit 1))) (.lit 2)))), (.fn2 5 (.var 2) (.bi .rem (.var 1) (.bi .quo (.un (.wrap .i64) (.bi .add (.un .len (.fn1 4 (.var 0))) (.lit 1))) (.lit 2)))), (.lit 0)])))))))))))))))),
  (.br (.bi .lt (.var 5) (.un .len (.fn1 4 (.var 0))))
   (.br (.un .not (.bi .and (.bi .eq (.te .get (.fn1 2 (.fn1 4 (.var 0))) (.var 5) (.lit 0)) (.un (.wrap .i64) (.bi .sub (.lit 0) (.te .get (.var 1) (.var 5) (.lit 0))))) (.bi .eq (.te .get (.fn1 2 (.fn1 4 (.var 0))) (.var 5) (.lit 1)) (.te .get (.var 1) (.var 5) (.lit 1)))))
    (.need [(.bi .le (.lit 0) (.var 5)), (.bi .le (.lit 0) (.var 5)), (.bi .le (.lit 0) (.var 5)), (.bi .lt (.var 5) (.un .len (.var 1))), (.bi .le (.lit 0) (.var 5)), (.bi .lt (.var 5) (.un .len (.var 1))), (.bi .le (.lit 0) (.var 5)), (.bi .lt (.var 5) (.un .len (.var 1))), (.bi .le (.lit 0) (.var 5)), (.bi .lt (.var 5) (.un .len (.var 1)))] (.ret [(.bl false)]))
    (.br (.un .not (.bi .and (.bi .eq (.te .get (.fn1 3 (.fn1 4 (.var 0))) (.var 5) (.lit 0)) (.un (.wrap .i64) (.bi .sub (.lit 0) (.te .get (.var 2) (.var 5) (.lit 0))))) (.bi .eq (.te .get (.fn1 3 (.fn1 4 (.var 0))) (.var 5) (.lit 1)) (.te .get (.var 2) (.var 5) (.lit 1)))))
     (.need [(.bi .le (.lit 0) (.var 5)), (.bi .le (.lit 0) (.var 5)), (.bi .le (.lit 0) (.var 5)), (.bi .lt (.var 5) (.un .len (.var 1))), (.bi .le (.lit 0) (.var 5)), (.bi .lt (.var 5) (.un .len (.var 1))), (.bi .le (.lit 0) (.var 5)), (.bi .lt (.var 5) (.un .len (.var 1))), (.bi .le (.lit 0) (.var 5)), (.bi .lt (.var 5) (.un .len (.var 1))), (.bi .le (.lit 0) (.var 5)), (.bi .le (.lit 0) (.var 5)), (.bi .le (.lit 0) (.var 5)), (.bi .lt (.var 5) (.un .len (.var 2))), (.bi .le (.lit 0) (.var 5)), (.bi .lt (.var 5) (.un .len (.var 2))), (.bi .le (.lit 0) (.var 5)), (.bi .lt (.var 5) (.un .len (.var 2))), (.bi .le (.lit 0) (.var 5)), (.bi .lt (.var 5) (.un .len (.var 2)))] (.ret [(.bl false)]))
     (.need [(.bi .le (.lit 0) (.var 5)), (.bi .le (.lit 0) (.var 5)), (.bi .le (.lit 0) (.var 5)), (.bi .lt (.var 5) (.un .len (.var 1))), (.bi .le (.lit 0) (.var 5)), (.bi .lt (.var 5) (.un .len (.var 1))), (.bi .le (.lit 0) (.var 5)), (.bi .lt (.var 5) (.un .len (.var 1))), (.bi .le (.lit 0) (.var 5)), (.bi .lt (.var 5) (.un .len (.var 1))), (.bi .le (.lit 0) (.var 5)), (.bi .le (.lit 0) (.var 5)), (.bi .le (.lit 0) (.var 5)), (.bi .lt (.var 5) (.un .len (.var 2))), (.bi .le (.lit 0) (.var 5)), (.bi .lt (.var 5) (.un .len (.var 2))), (.bi .le (.lit 0) (.var 5)), (.bi .lt (.var 5) (.un .len (.var 2))), (.bi .le (.lit 0) (.var 5)), (.bi .lt (.var 5) (.un .len (.var 2))), (.bi .le (.lit 0) (.var 5)), (.bi .lt (.var 5) (.un .len (.var 3))), (.bi .le (.lit 0) (.var 5)), (.bi .lt (.var 5) (.un .len (.var 3))), (.bi .le (.lit 0) (.var 5)), (.bi .lt (.var 5) (.un .len (.var 4))), (.bi .le (.lit 0) (.var 5)), (.bi .lt (.var 5) (.un .len (.var 4)))] (.br (.un .not (.bi .eq (.te .get (.var 3) (.var 5) (.lit 0)) (.un (.wrap .i64) (.bi .sub (.lit 0) (.te .get (.var 4) (.var 5) (.lit 0))))))
      (.ret [(.bl false)])
      (.goto 2 [(.var 0), (.var 1), (.var 2), (.var 3), (.var 4), (.un (.wrap .i64) (.bi .add (.var 5) (.lit 1)))])))))
   (.ret [(.bl true)]))]
set_option maxRecDepth 100000 in
theorem sLTurned : tmsLTurned.map (summaryF (cx [cScores, cCross, cPlain, cButler, cDatum, cAw] [5]) 6000 2 tmsLTurned cLTurned.rt) = ssLTurned := by kernel_rfl

noncomputable def tmsLWrong : List Tm := [entryTm Tryd.prog cLWrong,
  ⟨⟨⟨7, tl 178 [(1, (.int .u8 (.var 1))), (2, (.int .i64 (.var 2))), (3, (.bool (.var 3))), (9, (.slice 2 1 (.lit 0) (.un .len (.fn1 4 (.var 0))) none)), (38, (.slice 3 1 (.lit 0) (.lit 2) (some (.lit 2)))), (39, (.int .i64 (.lit 2))), (40, (.int .i64 (.var 4)))], [.at [0, 0, 1, 0, 1, 1], .lp [0, 1, 0, 1, 1], .blk 0, .at [1, 1, 1]], [], none⟩, [], [(.rows true [(.int .i64)] GA), (.rows true [(.int .i16)] (.var 0)), (.rows false [(.int .i64)] (.fn1 4 (.var 0))), (.cells false [(.int .i64 (.bi .min (.var 2) (.lit (-1)))), (.int .i64 (.bi .max (.var 2) (.bi .quo (.un (.wrap .i64) (.bi .add (.un .len (.fn1 4 (.var 0))) (.lit 1))) (.lit 2))))])]⟩, 5, [(.bi .le (.lit 0) (.var 1)), (.bi .le (.lit 0) (.var 4)), (.bi .le (.var 4) (.lit 2)), (.te .elems (.var 0) (.lit (-32768)) (.lit 32767)), (.bi .le (.var 1) (.lit 255)), (.bi .le (.lit (-9223372036854775808)) (.var 2)), (.bi .le (.var 2) (.lit 9223372036854775807))]⟩,
  ⟨⟨⟨7, tl 178 [(2, (.int .i64 (.var 1))), (107, (.slice 2 2 (.lit 0) (.lit 2) (some (.lit 2)))), (108, (.int .i64 (.lit 2))), (109, (.int .i64 (.var 4)))], [.at [0, 0, 1, 0, 1, 1, 1, 1, 1, 1, 1], .lp [0, 1, 0, 1, 1, 1, 1, 1, 1, 1], .blk 2, .at [1, 1, 1, 1, 1, 1, 1, 1]], [], none⟩, [], [(.rows true [(.int .i64)] GA), (.rows true [(.int .i16)] (.var 0)), (.cells false [(.slice 3 1 (.lit 0) (.bi .add (.bi .min (.un .len (.fn1 4 (.var 0))) (.lit 23)) (.lit 1)) none), (.int .i64 (.lit 240)), (.slice 4 1 (.lit 0) (.bi .add (.bi .min (.un .len (.fn1 4 (.var 0))) (.lit 23)) (.lit 25)) none), (.int .i64 (.lit 5))]), (.rows false [(.int .i64)] (.var 2)), (.rows false [(.int .i64)] (.var 3))]⟩, 5, [(.bi .eq (.un .len (.var 2)) (.bi .add (.bi .min (.un .len (.fn1 4 (.var 0))) (.lit 23)) (.lit 1))), (.bi .eq (.un .len (.var 3)) (.bi .add (.bi .min (.un .len (.fn1 4 (.var 0))) (.lit 23)) (.lit 25))), (.bi .le (.lit 0) (.var 4)), (.bi .le (.var 4) (.lit 2))]⟩]
def ssLWrong : List ST := [(.goto 1 [(.var 0), (.var 1), (.var 2), (.var 3), (.lit 0)]),
  (.br (.bi .lt (.var 4) (.lit 2))
   (.need [(.bi .le (.un .len (.fn1 4 (.var 0))) (.lit 100000))] (.br (.un .not (.bi .eq (.fn2 3 (.fn1 4 (.var 0)) (.te .get (.bi .row (.bi .cons (.bi .min (.var 2) (.lit (-1))) .nil) (.bi .row (.bi .cons (.bi .max (.var 2) (.bi .quo (.un (.wrap .i64) (.bi .add (.un .len (.fn1 4 (.var 0))) (.lit 1))) (.lit 2))) .nil) .nil)) (.var 4) (.lit 0))) (.lit 0)))
    (.ret [(.bl false)])
    (.br (.un .not (.bi .eq (.un .len (.fn2 5 (.fn1 4 (.var 0)) (.te .get (.bi .row (.bi .cons (.bi .min (.var 2) (.lit (-1))) .nil) (.bi .row (.bi .cons (.bi .max (.var 2) (.bi .quo (.un (.wrap .i64) (.bi .add (.un .len (.fn1 4 (.var 0))) (.lit 1))) (.lit 2))) .nil) .nil)) (.var 4) (.lit 0)))) (.lit 0)))
     (.ret [(.bl false)])
     (.br (.un .not (.bi .eq (.fn2 4 (.fn1 4 (.var 0)) (.te .get (.bi .row (.bi .cons (.bi .min (.var 2) (.lit (-1))) .nil) (.bi .row (.bi .cons (.bi .max (.var 2) (.bi .quo (.un (.wrap .i64) (.bi .add (.un .len (.fn1 4 (.var 0))) (.lit 1))) (.lit 2))) .nil) .nil)) (.var 4) (.lit 0))) (.lit 2)))
      (.ret [(.bl false)])
      (.goto 1 [(.var 0), (.var 1), (.var 2), (.var 3), (.bi .add (.var 4) (.lit 1))])))))
   (.need [(.bi .le (.bi .min (.un .len (.fn1 4 (.var 0))) (.lit 23)) (.un .len (.fn1 4 (.var 0))))] (.need [(.bi .lt (.bi .rem (.var 1) (.bi .add (.bi .min (.un .len (.fn1 4 (.var 0))) (.lit 23)) (.lit 1))) (.bi .add (.bi .min (.un .len (.fn1 4 (.var 0))) (.lit 23)) (.lit 1)))] (.br (.var 3)
    (.goto 2 [(.var 0), (.var 2), (.se (.se (.bi .snoc (.bi .take (.fn1 4 (.var 0)) (.bi .min (.un .len (.fn1 4 (.var 0))) (.lit 23))) (.bi .cons (.lit 0) .nil)) (.bi .rem (.var 1) (.bi .add (.bi .min (.un .len (.fn1 4 (.var 0))) (.lit 23)) (.lit 1))) (.lit 0) (.bi .max (.var 2) (.lit 7601))) (.bi .rem (.var 1) (.bi .add (.bi .min (.un .len (.fn1 4 (.var 0))) (.lit 23)) (.lit 1))) (.lit 0) (.bi .min (.var 2) (.lit (-7601)))), (reps 24 (.bi .cons (.lit 0) .nil) (.se (.se (.bi .snoc (.bi .take (.fn1 4 (.var 0)) (.bi .min (.un .len (.fn1 4 (.var 0))) (.lit 23))) (.bi .cons (.lit 0) .nil)) (.bi .rem (.var 1) (.bi .add (.bi .min (.un .len (.fn1 4 (.var 0))) (.lit 23)) (.lit 1))) (.lit 0) (.bi .max (.var 2) (.lit 7601))) (.bi .rem (.var 1) (.bi .add (.bi .min (.un .len (.fn1 4 (.var 0))) (.lit 23)) (.lit 1))) (.lit 0) (.bi .min (.var 2) (.lit (-7601))))), (.lit 0)])
    (.goto 2 [(.var 0), (.var 2), (.se (.bi .snoc (.bi .take (.fn1 4 (.var 0)) (.bi .min (.un .len (.fn1 4 (.var 0))) (.lit 23))) (.bi .cons (.lit 0) .nil)) (.bi .rem (.var 1) (.bi .add (.bi .min (.un .len (.fn1 4 (.var 0))) (.lit 23)) (.lit 1))) (.lit 0) (.bi .max (.var 2) (.lit 7601))), (reps 24 (.bi .cons (.lit 0) .nil) (.se (.bi .snoc (.bi .take (.fn1 4 (.var 0)) (.bi .min (.un .len (.fn1 4 (.var 0))) (.lit 23))) (.bi .cons (.lit 0) .nil)) (.bi .rem (.var 1) (.bi .add (.bi .min (.un .len (.fn1 4 (.var 0))) (.lit 23)) (.lit 1))) (.lit 0) (.bi .max (.var 2) (.lit 7601)))), (.lit 0)]))))),
  (.br (.bi .lt (.var 4) (.lit 2))
   (.br (.bi .eq (.bi .mul (.var 4) (.lit 2)) (.lit 0))
    (.br (.un .not (.bi .eq (.un (.wrap .i64) (.bi .add (.un (.wrap .i64) (.bi .add (.un .len (.fn1 2 (.var 2))) (.un .len (.fn1 3 (.var 2))))) (.un .len (.fn2 5 (.var 2) (.var 1))))) (.lit 0)))
     (.ret [(.bl false)])
     (.br (.un .not (.bi .eq (.fn2 3 (.var 2) (.var 1)) (.lit 0)))
      (.ret [(.bl false)])
      (.br (.un .not (.bi .eq (.fn1 1 (.var 2)) (.lit 240)))
       (.ret [(.bl false)])
       (.br (.un .not (.bi .eq (.fn2 4 (.var 2) (.var 1)) (.lit 240)))
        (.ret [(.bl false)])
        (.goto 2 [(.var 0), (.var 1), (.var 2), (.var 3), (.bi .add (.var 4) (.lit 1))])))))
    (.br (.bi .eq (.bi .mul (.var 4) (.lit 2)) (.lit 2))
     (.br (.un .not (.bi .eq (.un (.wrap .i64) (.bi .add (.un (.wrap .i64) (.bi .add (.un .len (.fn1 2 (.var 3))) (.un .len (.fn1 3 (.var 3))))) (.un .len (.fn2 5 (.var 3) (.var 1))))) (.lit 0)))
      (.ret [(.bl false)])
      (.br (.un .not (.bi .eq (.fn2 3 (.var 3) (.var 1)) (.lit 0)))
       (.ret [(.bl false)])
       (.br (.un .not (.bi .eq (.fn1 1 (.var 3)) (.lit 5)))
        (.ret [(.bl false)])
        (.br (.un .not (.bi .eq (.fn2 4 (.var 3) (.var 1)) (.lit 5)))
         (.ret [(.bl false)])
         (.goto 2 [(.var 0), (.var 1), (.var 2), (.var 3), (.bi .add (.var 4) (.lit 1))])))))
     (.bad 4)))
   (.ret [(.bl true)]))]
set_option maxRecDepth 100000 in
theorem sLWrong : tmsLWrong.map (summaryF (cx [cScores, cCross, cPlain, cButler, cDatum, cAw] [7]) 6000 2 tmsLWrong cLWrong.rt) = ssLWrong := by kernel_rfl

end Go.Proofs.YtnpadkajapialaaDoor
