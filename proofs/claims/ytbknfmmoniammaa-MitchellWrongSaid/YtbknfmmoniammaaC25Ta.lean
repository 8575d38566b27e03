/- Chapter 25: the summaries of awake, as the kernel reckons them. -/
import Derived.Test.YtbknfmmoniammaaC25R
namespace Go.Proofs.Ytbknfmmoniammaa
open Go Go.Sx Go.Proofs.C25

noncomputable def cxA (ctrs : List Ctr) (fs : List Nat) : Ctx := { cx ctrs fs with heads := [4, 10, 14].map fun n => (10, 9 :: List.replicate n 1) }
theorem reA {I : Itp} {c : Ctr} {ctrs ctrs' : List Ctr} {fs fs' : List Nat} (h : c.Valid (cxA ctrs fs) I) : c.Valid (cx ctrs' fs') I := ⟨h.has, h.wf, h.run⟩
theorem chunk {α β : Type} {f : α → β} {l : List α} {s : List β} {i : Nat} (a : Nat) (h : ((l.drop i).take a).map f = (s.drop i).take a) (h' : (l.drop (i + a)).map f = s.drop (i + a)) : (l.drop i).map f = s.drop i := by
  have e1 : l.drop i = (l.drop i).take a ++ l.drop (i + a) := by rw [← List.drop_drop, List.take_append_drop]
  have e2 : s.drop i = (s.drop i).take a ++ s.drop (i + a) := by rw [← List.drop_drop, List.take_append_drop]
  rw [e1, e2, List.map_append, h, h']

noncomputable def tmsAw : List Tm := [entryTm Try.prog cAw,
  ⟨⟨⟨10, tl 238 [(1, (.ptr 0 (.lit 0) (.lit 0)))], [.at [1, 1, 1, 1]], [], none⟩, [], [(.cells false [(.int .i64 (.fn3 2 (.lit 3) (.lit 3) (.lit 1))), (.int .i64 (.fn3 3 (.lit 3) (.lit 3) (.lit 1))), (.int .i64 (.fn3 4 (.lit 3) (.lit 3) (.lit 1))), (.int .i64 (.fn3 5 (.lit 3) (.lit 3) (.lit 1))), (.int .i64 (.fn3 6 (.lit 3) (.lit 3) (.lit 1))), (.slice 1 5 (.lit 0) (.un .len (.fn3 1 (.lit 3) (.lit 3) (.lit 1))) none)]), (.rows false [(.int .i64), (.int .i64), (.int .i64), (.int .i64), (.int .i64)] (.fn3 1 (.lit 3) (.lit 3) (.lit 1)))]⟩, 0, []⟩,
  ⟨⟨⟨10, tl 238 [(1, (.ptr 0 (.lit 0) (.lit 0)))], [.at [1, 1, 1, 1, 1, 1, 1, 1, 1, 1]], [], none⟩, [], [(.cells false [(.int .i64 (.fn3 2 (.lit 3) (.lit 3) (.lit 1))), (.int .i64 (.fn3 3 (.lit 3) (.lit 3) (.lit 1))), (.int .i64 (.fn3 4 (.lit 3) (.lit 3) (.lit 1))), (.int .i64 (.fn3 5 (.lit 3) (.lit 3) (.lit 1))), (.int .i64 (.fn3 6 (.lit 3) (.lit 3) (.lit 1))), (.slice 1 5 (.lit 0) (.un .len (.fn3 1 (.lit 3) (.lit 3) (.lit 1))) none)]), (.rows false [(.int .i64), (.int .i64), (.int .i64), (.int .i64), (.int .i64)] (.fn3 1 (.lit 3) (.lit 3) (.lit 1)))]⟩, 0, []⟩,
  ⟨⟨⟨10, tl 238 [(2, (.int .i64 (.fn2 2 (.lit 5) (.lit 5)))), (16, (.ptr 0 (.lit 0) (.lit 0)))], [.at [1, 1, 1, 1, 1, 1, 1, 1, 1, 1, 1, 1, 1, 1]], [], none⟩, [], [(.cells false [(.int .i64 (.fn2 5 (.lit 5) (.lit 5))), (.int .i64 (.fn2 6 (.lit 5) (.lit 5))), (.int .i64 (.fn2 7 (.lit 5) (.lit 5))), (.int .i64 (.fn2 8 (.lit 5) (.lit 5))), (.int .i64 (.fn2 9 (.lit 5) (.lit 5))), (.slice 1 5 (.lit 0) (.un .len (.fn2 3 (.lit 5) (.lit 5))) none)]), (.rows false [(.int .i64), (.int .i64), (.int .i64), (.int .i64), (.int .i64)] (.fn2 3 (.lit 5) (.lit 5)))]⟩, 0, []⟩]
def ssAw : List ST := [(.br (.un .not (.bi .eq (.fn3 0 (.lit 3) (.lit 3) (.lit 1)) (.lit 0)))
   (.ret [(.bl false)])
   (.br (.un .not (.bi .eq (.fn3 2 (.lit 3) (.lit 3) (.lit 1)) (.lit 3)))
    (.ret [(.bl false)])
    (.br (.un .not (.bi .eq (.fn3 3 (.lit 3) (.lit 3) (.lit 1)) (.lit 3)))
     (.ret [(.bl false)])
     (.br (.un .not (.bi .eq (.fn3 4 (.lit 3) (.lit 3) (.lit 1)) (.lit 3)))
      (.ret [(.bl false)])
      (.br (.un .not (.bi .eq (.fn3 5 (.lit 3) (.lit 3) (.lit 1)) (.lit 1)))
       (.ret [(.bl false)])
       (.br (.un .not (.bi .eq (.fn3 6 (.lit 3) (.lit 3) (.lit 1)) (.lit 2)))
        (.ret [(.bl false)])
        (.br (.un .not (.bi .eq (.un .len (.fn3 1 (.lit 3) (.lit 3) (.lit 1))) (.lit 9)))
         (.ret [(.bl false)])
         (.br (.un .not (.bi .and (.bi .eq (.te .get (.fn3 1 (.lit 3) (.lit 3) (.lit 1)) (.lit 0) (.lit 0)) (.lit 0)) (.bi .and (.bi .eq (.te .get (.fn3 1 (.lit 3) (.lit 3) (.lit 1)) (.lit 0) (.lit 1)) (.lit 0)) (.bi .and (.bi .eq (.te .get (.fn3 1 (.lit 3) (.lit 3) (.lit 1)) (.lit 0) (.lit 2)) (.lit 1)) (.bi .and (.bi .eq (.te .get (.fn3 1 (.lit 3) (.lit 3) (.lit 1)) (.lit 0) (.lit 3)) (.lit 4)) (.bi .eq (.te .get (.fn3 1 (.lit 3) (.lit 3) (.lit 1)) (.lit 0) (.lit 4)) (.lit 0)))))))
          (.ret [(.bl false)])
          (.br (.un .not (.bi .and (.bi .eq (.te .get (.fn3 1 (.lit 3) (.lit 3) (.lit 1)) (.lit 1) (.lit 0)) (.lit 0)) (.bi .and (.bi .eq (.te .get (.fn3 1 (.lit 3) (.lit 3) (.lit 1)) (.lit 1) (.lit 1)) (.lit 1)) (.bi .and (.bi .eq (.te .get (.fn3 1 (.lit 3) (.lit 3) (.lit 1)) (.lit 1) (.lit 2)) (.lit 2)) (.bi .and (.bi .eq (.te .get (.fn3 1 (.lit 3) (.lit 3) (.lit 1)) (.lit 1) (.lit 3)) (.lit 5)) (.bi .eq (.te .get (.fn3 1 (.lit 3) (.lit 3) (.lit 1)) (.lit 1) (.lit 4)) (.lit 1)))))))
           (.ret [(.bl false)])
           (.br (.un .not (.bi .and (.bi .eq (.te .get (.fn3 1 (.lit 3) (.lit 3) (.lit 1)) (.lit 2) (.lit 0)) (.lit 0)) (.bi .and (.bi .eq (.te .get (.fn3 1 (.lit 3) (.lit 3) (.lit 1)) (.lit 2) (.lit 1)) (.lit 2)) (.bi .and (.bi .eq (.te .get (.fn3 1 (.lit 3) (.lit 3) (.lit 1)) (.lit 2) (.lit 2)) (.lit 3)) (.bi .and (.bi .eq (.te .get (.fn3 1 (.lit 3) (.lit 3) (.lit 1)) (.lit 2) (.lit 3)) (.lit 6)) (.bi .eq (.te .get (.fn3 1 (.lit 3) (.lit 3) (.lit 1)) (.lit 2) (.lit 4)) (.lit 2)))))))
            (.ret [(.bl false)])
            (.br (.un .not (.bi .and (.bi .eq (.te .get (.fn3 1 (.lit 3) (.lit 3) (.lit 1)) (.lit 3) (.lit 0)) (.lit 1)) (.bi .and (.bi .eq (.te .get (.fn3 1 (.lit 3) (.lit 3) (.lit 1)) (.lit 3) (.lit 1)) (.lit 0)) (.bi .and (.bi .eq (.te .get (.fn3 1 (.lit 3) (.lit 3) (.lit 1)) (.lit 3) (.lit 2)) (.lit 1)) (.bi .and (.bi .eq (.te .get (.fn3 1 (.lit 3) (.lit 3) (.lit 1)) (.lit 3) (.lit 3)) (.lit 6)) (.bi .eq (.te .get (.fn3 1 (.lit 3) (.lit 3) (.lit 1)) (.lit 3) (.lit 4)) (.lit 1)))))))
             (.ret [(.bl false)])
             (.br (.un .not (.bi .and (.bi .eq (.te .get (.fn3 1 (.lit 3) (.lit 3) (.lit 1)) (.lit 4) (.lit 0)) (.lit 1)) (.bi .and (.bi .eq (.te .get (.fn3 1 (.lit 3) (.lit 3) (.lit 1)) (.lit 4) (.lit 1)) (.lit 1)) (.bi .and (.bi .eq (.te .get (.fn3 1 (.lit 3) (.lit 3) (.lit 1)) (.lit 4) (.lit 2)) (.lit 2)) (.bi .and (.bi .eq (.te .get (.fn3 1 (.lit 3) (.lit 3) (.lit 1)) (.lit 4) (.lit 3)) (.lit 4)) (.bi .eq (.te .get (.fn3 1 (.lit 3) (.lit 3) (.lit 1)) (.lit 4) (.lit 4)) (.lit 2)))))))
              (.ret [(.bl false)])
              (.br (.un .not (.bi .and (.bi .eq (.te .get (.fn3 1 (.lit 3) (.lit 3) (.lit 1)) (.lit 5) (.lit 0)) (.lit 1)) (.bi .and (.bi .eq (.te .get (.fn3 1 (.lit 3) (.lit 3) (.lit 1)) (.lit 5) (.lit 1)) (.lit 2)) (.bi .and (.bi .eq (.te .get (.fn3 1 (.lit 3) (.lit 3) (.lit 1)) (.lit 5) (.lit 2)) (.lit 3)) (.bi .and (.bi .eq (.te .get (.fn3 1 (.lit 3) (.lit 3) (.lit 1)) (.lit 5) (.lit 3)) (.lit 5)) (.bi .eq (.te .get (.fn3 1 (.lit 3) (.lit 3) (.lit 1)) (.lit 5) (.lit 4)) (.lit 0)))))))
               (.ret [(.bl false)])
               (.br (.un .not (.bi .and (.bi .eq (.te .get (.fn3 1 (.lit 3) (.lit 3) (.lit 1)) (.lit 6) (.lit 0)) (.lit 2)) (.bi .and (.bi .eq (.te .get (.fn3 1 (.lit 3) (.lit 3) (.lit 1)) (.lit 6) (.lit 1)) (.lit 0)) (.bi .and (.bi .eq (.te .get (.fn3 1 (.lit 3) (.lit 3) (.lit 1)) (.lit 6) (.lit 2)) (.lit 1)) (.bi .and (.bi .eq (.te .get (.fn3 1 (.lit 3) (.lit 3) (.lit 1)) (.lit 6) (.lit 3)) (.lit 5)) (.bi .eq (.te .get (.fn3 1 (.lit 3) (.lit 3) (.lit 1)) (.lit 6) (.lit 4)) (.lit 2)))))))
                (.ret [(.bl false)])
                (.br (.un .not (.bi .and (.bi .eq (.te .get (.fn3 1 (.lit 3) (.lit 3) (.lit 1)) (.lit 7) (.lit 0)) (.lit 2)) (.bi .and (.bi .eq (.te .get (.fn3 1 (.lit 3) (.lit 3) (.lit 1)) (.lit 7) (.lit 1)) (.lit 1)) (.bi .and (.bi .eq (.te .get (.fn3 1 (.lit 3) (.lit 3) (.lit 1)) (.lit 7) (.lit 2)) (.lit 2)) (.bi .and (.bi .eq (.te .get (.fn3 1 (.lit 3) (.lit 3) (.lit 1)) (.lit 7) (.lit 3)) (.lit 6)) (.bi .eq (.te .get (.fn3 1 (.lit 3) (.lit 3) (.lit 1)) (.lit 7) (.lit 4)) (.lit 0)))))))
                 (.ret [(.bl false)])
                 (.br (.un .not (.bi .and (.bi .eq (.te .get (.fn3 1 (.lit 3) (.lit 3) (.lit 1)) (.lit 8) (.lit 0)) (.lit 2)) (.bi .and (.bi .eq (.te .get (.fn3 1 (.lit 3) (.lit 3) (.lit 1)) (.lit 8) (.lit 1)) (.lit 2)) (.bi .and (.bi .eq (.te .get (.fn3 1 (.lit 3) (.lit 3) (.lit 1)) (.lit 8) (.lit 2)) (.lit 3)) (.bi .and (.bi .eq (.te .get (.fn3 1 (.lit 3) (.lit 3) (.lit 1)) (.lit 8) (.lit 3)) (.lit 4)) (.bi .eq (.te .get (.fn3 1 (.lit 3) (.lit 3) (.lit 1)) (.lit 8) (.lit 4)) (.lit 1)))))))
                  (.ret [(.bl false)])
                  (.goto 1 []))))))))))))))))),
  (.br (.un .not (.bi .eq (.fn2 0 (.lit 4) (.lit 2)) (.lit 3)))
   (.ret [(.bl false)])
   (.br (.un .not (.bi .eq (.un (.wrap .i64) (.bi .add (.un (.wrap .i64) (.bi .add (.fn2 1 (.lit 4) (.lit 2)) (.fn3 0 (.lit 4) (.lit 4) (.lit 3)))) (.fn3 0 (.lit 4) (.lit 3) (.lit 2)))) (.lit 0)))
    (.ret [(.bl false)])
    (.br (.un .not (.bi .eq (.fn2 1 (.lit 4) (.lit 1)) (.lit 6)))
     (.ret [(.bl false)])
     (.br (.un .not (.bi .eq (.fn2 1 (.lit 25) (.lit 1)) (.lit 2)))
      (.ret [(.bl false)])
      (.br (.un .not (.bi .eq (.fn3 5 (.lit 4) (.lit 4) (.lit 3)) (.lit 2)))
       (.ret [(.bl false)])
       (.br (.un .not (.bi .eq (.un .len (.fn3 1 (.lit 4) (.lit 4) (.lit 3))) (.lit 16)))
        (.ret [(.bl false)])
        (.br (.un .not (.bi .eq (.un .len (.fn3 1 (.lit 4) (.lit 3) (.lit 2))) (.lit 12)))
         (.ret [(.bl false)])
         (.br (.un .not (.bi .eq (.te .get (.fn3 1 (.lit 4) (.lit 4) (.lit 3)) (.lit 2) (.lit 4)) (.lit 3)))
          (.ret [(.bl false)])
          (.br (.un .not (.bi .eq (.te .get (.fn3 1 (.lit 4) (.lit 4) (.lit 3)) (.lit 3) (.lit 4)) (.lit 0)))
           (.ret [(.bl false)])
           (.br (.un .not (.bi .eq (.te .get (.fn3 1 (.lit 4) (.lit 3) (.lit 2)) (.lit 8) (.lit 3)) (.lit 6)))
            (.ret [(.bl false)])
            (.br (.un .not (.bi .eq (.te .get (.fn3 1 (.lit 4) (.lit 3) (.lit 2)) (.lit 11) (.lit 3)) (.lit 5)))
             (.ret [(.bl false)])
             (.goto 2 [])))))))))))),
  (.need [(.bi .le (.un .len (.fn3 1 (.lit 3) (.lit 3) (.lit 1))) (.lit 5000))] (.need [(.bi .le (.un .len (.fn2 13 (.fn3 1 (.lit 3) (.lit 3) (.lit 1)) (.lit 6))) (.lit 5000))] (.br (.un .not (.bi .eq (.fn2 14 (.fn3 1 (.lit 3) (.lit 3) (.lit 1)) (.lit 6)) (.lit 0)))
   (.ret [(.bl false)])
   (.need [(.bi .lt (.lit 2) (.un .len (.fn2 13 (.fn3 1 (.lit 3) (.lit 3) (.lit 1)) (.lit 6))))] (.br (.un .not (.bi .eq (.te .get (.fn2 13 (.fn3 1 (.lit 3) (.lit 3) (.lit 1)) (.lit 6)) (.lit 2) (.lit 3)) (.lit 0)))
    (.ret [(.bl false)])
    (.br (.un .not (.bi .eq (.fn2 16 (.fn2 13 (.fn3 1 (.lit 3) (.lit 3) (.lit 1)) (.lit 6)) (.lit 0)) (.lit 1)))
     (.ret [(.bl false)])
     (.need [(.bi .lt (.lit 0) (.un .len (.fn2 15 (.fn2 13 (.fn3 1 (.lit 3) (.lit 3) (.lit 1)) (.lit 6)) (.lit 0))))] (.br (.un .not (.bi .eq (.te .get (.fn2 15 (.fn2 13 (.fn3 1 (.lit 3) (.lit 3) (.lit 1)) (.lit 6)) (.lit 0)) (.lit 0) (.lit 0)) (.lit 3)))
      (.ret [(.bl false)])
      (.goto 3 []))))))))),
  (.need [(.bi .le (.un .len (.fn2 3 (.lit 5) (.lit 5))) (.lit 5000))] (.br (.bi .eq (.fn2 2 (.lit 5) (.lit 5)) (.lit 0))
   (.need [(.bi .lt (.lit 7) (.un .len (.fn2 3 (.lit 5) (.lit 5))))] (.br (.bi .eq (.te .get (.fn2 3 (.lit 5) (.lit 5)) (.lit 7) (.lit 2)) (.lit 11))
    (.br (.bi .eq (.fn2 16 (.fn2 3 (.lit 5) (.lit 5)) (.lit 1)) (.lit 1))
     (.need [(.bi .lt (.lit 0) (.un .len (.fn2 15 (.fn2 3 (.lit 5) (.lit 5)) (.lit 1))))] (.br (.bi .eq (.te .get (.fn2 15 (.fn2 3 (.lit 5) (.lit 5)) (.lit 1)) (.lit 0) (.lit 0)) (.lit 3))
      (.ret [(.bi .eq (.fn2 2 (.lit 9) (.lit 1)) (.lit 6))])
      (.ret [(.bl false)])))
     (.ret [(.bl false)]))
    (.ret [(.bl false)])))
   (.ret [(.bl false)])))]
set_option maxRecDepth 100000 in
theorem sAw0 : ((tmsAw.drop 0).take 1).map (summaryF (cxA [cMost, cMake, cWithout, cOut, cRover] []) 60000 0 tmsAw cAw.rt) = (ssAw.drop 0).take 1 := by kernel_rfl
set_option maxRecDepth 100000 in
theorem sAw1 : ((tmsAw.drop 1).take 1).map (summaryF (cxA [cMost, cMake, cWithout, cOut, cRover] []) 60000 0 tmsAw cAw.rt) = (ssAw.drop 1).take 1 := by kernel_rfl
set_option maxRecDepth 100000 in
theorem sAw2 : ((tmsAw.drop 2).take 1).map (summaryF (cxA [cMost, cMake, cWithout, cOut, cRover] []) 60000 0 tmsAw cAw.rt) = (ssAw.drop 2).take 1 := by kernel_rfl
set_option maxRecDepth 100000 in
theorem sAw3 : ((tmsAw.drop 3).take 1).map (summaryF (cxA [cMost, cMake, cWithout, cOut, cRover] []) 60000 0 tmsAw cAw.rt) = (ssAw.drop 3).take 1 := by kernel_rfl
theorem sAw : tmsAw.map (summaryF (cxA [cMost, cMake, cWithout, cOut, cRover] []) 60000 0 tmsAw cAw.rt) = ssAw := chunk (i := 0) 1 sAw0 (chunk 1 sAw1 (chunk 1 sAw2 (chunk 1 sAw3 rfl)))

end Go.Proofs.Ytbknfmmoniammaa
