/- Chapter 26: the summaries of its functions, as the kernel reckons them. -/
import Derived.Test.YtohelfcinfpmaaaC26Defs
import Derived.Test.YtohelfcinfpmaaaProg
namespace Go.Proofs.Ytohelfcinfpmaaa
open Go Go.Sx Go.Proofs.C26

noncomputable def cx (ctrs : List Ctr) (fs : List Nat) : Ctx := { P := Try.prog, gl := [], ng := 0, ctrs, heads := fs.flatMap fun f => (loopPaths (bodyOf Try.prog f) []).map fun p => (f, p) }

theorem glIn (ctrs : List Ctr) (fs : List Nat) : GlIn (cx ctrs fs).gl (cx ctrs fs).ng := by
  intro g h hh
  cases hh

theorem re {I : Itp} {c : Ctr} {ctrs ctrs' : List Ctr} {fs fs' : List Nat} (h : c.Valid (cx ctrs fs) I) : c.Valid (cx ctrs' fs') I := ⟨h.has, h.wf, h.run⟩

noncomputable def tmsPrime : List Tm := [entryTm Try.prog cPrime,
  ⟨⟨⟨26, tl 17 [(0, (.int .i64 (.var 0))), (3, (.int .i64 (.var 1)))], [.at [0, 0, 1, 0, 1], .lp [0, 1, 0, 1], .blk 0, .at [1, 1]], [], none⟩, [], []⟩, 2, [(.bi .le (.lit 0) (.var 0)), (.bi .le (.var 0) (.lit 1000))]⟩]
def ssPrime : List ST := [(.goto 1 [(.var 0), (.lit 2)]),
  (.br (.bi .le (.un (.wrap .i64) (.bi .mul (.var 1) (.var 1))) (.var 0))
   (.need [(.un .not (.bi .eq (.var 1) (.lit 0)))] (.br (.bi .eq (.bi .rem (.var 0) (.var 1)) (.lit 0))
    (.ret [(.bl false)])
    (.goto 1 [(.var 0), (.un (.wrap .i64) (.bi .add (.var 1) (.lit 1)))])))
   (.ret [(.bi .lt (.lit 1) (.var 0))]))]
set_option maxRecDepth 100000 in
theorem sPrime : tmsPrime.map (summaryF (cx [] [26]) 6000 0 tmsPrime cPrime.rt) = ssPrime := by kernel_rfl

noncomputable def tmsRPrime : List Tm := [entryTm Try.prog cRPrime,
  ⟨⟨⟨35, tl 15 [(0, (.int .i64 (.var 0))), (3, (.int .i64 (.var 1)))], [.at [0, 0, 1, 0, 1, 1], .lp [0, 1, 0, 1, 1], .blk 0, .at [1, 1, 1]], [], none⟩, [], []⟩, 2, [(.bi .le (.var 1) (.var 0)), (.bi .le (.lit 2) (.var 1)), (.bi .le (.var 0) (.lit 1000))]⟩]
def ssRPrime : List ST := [(.br (.bi .lt (.var 0) (.lit 2))
   (.ret [(.bl false)])
   (.goto 1 [(.var 0), (.lit 2)])),
  (.br (.bi .lt (.var 1) (.var 0))
   (.br (.bi .eq (.bi .rem (.var 0) (.var 1)) (.lit 0))
    (.ret [(.bl false)])
    (.goto 1 [(.var 0), (.bi .add (.var 1) (.lit 1))]))
   (.ret [(.bl true)]))]
set_option maxRecDepth 100000 in
theorem sRPrime : tmsRPrime.map (summaryF (cx [] [35]) 6000 0 tmsRPrime cRPrime.rt) = ssRPrime := by kernel_rfl

noncomputable def tmsPrimeT : List Tm := [entryTm Try.prog cPrimeT]
def ssPrimeT : List ST := [(.br (.bi .lt (.var 0) (.lit 2))
   (.ret [(.lit 0), (.bl false)])
   (.br (.bi .lt (.lit 24) (.var 0))
    (.ret [(.lit 0), (.bl false)])
    (.br (.un .not (.fn1 0 (.bi .add (.bi .mul (.lit 2) (.var 0)) (.lit (-1)))))
     (.ret [(.lit 0), (.bl false)])
     (.br (.bi .eq (.bi (.bit .and .i64) (.bi .add (.bi .mul (.lit 2) (.var 0)) (.lit (-2))) (.bi .add (.bi .mul (.lit 2) (.var 0)) (.lit (-3)))) (.lit 0))
      (.ret [(.lit 0), (.bl false)])
      (.ret [(.bi .add (.bi .mul (.lit 2) (.var 0)) (.lit (-1))), (.bl true)])))))]
set_option maxRecDepth 100000 in
theorem sPrimeT : tmsPrimeT.map (summaryF (cx [cPrime] []) 6000 0 tmsPrimeT cPrimeT.rt) = ssPrimeT := by kernel_rfl

noncomputable def tmsRPrimeT : List Tm := [entryTm Try.prog cRPrimeT,
  ⟨⟨⟨22, tl 30 [(0, (.int .i64 (.var 0))), (4, (.int .i64 (.var 1)))], [.at [0, 0, 1, 0, 1, 1], .lp [0, 1, 0, 1, 1], .blk 0, .at [1, 1, 1]], [], none⟩, [], []⟩, 2, [(.bi .le (.lit 1) (.var 1)), (.fn1 0 (.bi .add (.bi .mul (.lit 2) (.var 0)) (.lit (-1)))), (.bi .le (.var 0) (.lit 24)), (.bi .le (.lit 2) (.var 0))]⟩]
def ssRPrimeT : List ST := [(.br (.bi .lt (.var 0) (.lit 2))
   (.ret [(.lit 0), (.bl false)])
   (.br (.bi .lt (.lit 24) (.var 0))
    (.ret [(.lit 0), (.bl false)])
    (.br (.un .not (.fn1 0 (.bi .add (.bi .mul (.lit 2) (.var 0)) (.lit (-1)))))
     (.ret [(.lit 0), (.bl false)])
     (.goto 1 [(.var 0), (.lit 1)])))),
  (.br (.bi .lt (.var 1) (.lit 100))
   (.br (.bi .eq (.bi .add (.bi .mul (.lit 2) (.var 0)) (.lit (-2))) (.var 1))
    (.ret [(.lit 0), (.bl false)])
    (.goto 1 [(.var 0), (.bi .mul (.lit 2) (.var 1))]))
   (.ret [(.bi .add (.bi .mul (.lit 2) (.var 0)) (.lit (-1))), (.bl true)]))]
set_option maxRecDepth 100000 in
theorem sRPrimeT : tmsRPrimeT.map (summaryF (cx [cRPrime] [22]) 6000 0 tmsRPrimeT cRPrimeT.rt) = ssRPrimeT := by kernel_rfl

noncomputable def tmsRRoot : List Tm := [entryTm Try.prog cRRoot,
  ⟨⟨⟨23, tl 49 [(0, (.int .i64 (.var 0))), (4, (.int .i64 (.var 1)))], [.at [0, 0, 1, 1, 1], .lp [0, 1, 1, 1], .blk 0], [], none⟩, [], []⟩, 2, [(.fn1 0 (.var 0)), (.bi .le (.var 0) (.lit 1000)), (.bi .le (.lit 3) (.var 0))]⟩,
  ⟨⟨⟨23, tl 49 [(0, (.int .i64 (.var 0))), (4, (.int .i64 (.var 5))), (5, (.slice 0 1 (.lit 0) (.var 0) (some (.var 0)))), (6, (.int .i64 (.var 2))), (7, (.int .i64 (.var 3))), (8, (.int .i64 (.var 4)))], [.at [0, 0, 1, 0, 1, 1, 0, 0, 0, 0, 1, 1, 1], .lp [0, 1, 0, 1, 1, 0, 0, 0, 0, 1, 1, 1], .blk 2, .at [1, 1, 1, 0, 0, 0, 0, 1, 1, 1], .blk 1, .at [1, 0, 0, 1, 1, 1], .lp [0, 1, 1, 1], .blk 0], [], none⟩, [], [(.rows false [.bool] (.var 1))]⟩, 6, [(.bi .eq (.un .len (.var 1)) (.var 0)), (.bi .le (.lit 0) (.var 3)), (.bi .le (.var 3) (.un .len (.var 1))), (.bi .le (.var 4) (.var 0)), (.bi .le (.lit 1) (.var 4)), (.fn1 0 (.var 0)), (.bi .le (.var 0) (.lit 1000)), (.bi .le (.lit 3) (.var 0))]⟩]
def ssRRoot : List ST := [(.br (.bi .lt (.var 0) (.lit 3))
   (.ret [(.lit 0), (.lit 2)])
   (.br (.bi .lt (.lit 1000) (.var 0))
    (.ret [(.lit 0), (.lit 2)])
    (.br (.un .not (.fn1 0 (.var 0)))
     (.ret [(.lit 0), (.lit 2)])
     (.goto 1 [(.var 0), (.lit 2)])))),
  (.goto 2 [(.var 0), (.bi .rep (.var 0) (.bi .cons (.lit 0) .nil)), (.lit 0), (.lit 1), (.lit 1), (.var 1)]),
  (.br (.bi .lt (.var 4) (.var 0))
   (.need [(.bi .le (.lit 0) (.bi .rem (.un (.wrap .i64) (.bi .mul (.var 3) (.var 5))) (.var 0))), (.bi .lt (.bi .rem (.un (.wrap .i64) (.bi .mul (.var 3) (.var 5))) (.var 0)) (.var 0))] (.br (.un .not (.un .not (.bi .eq (.te .get (.var 1) (.bi .rem (.un (.wrap .i64) (.bi .mul (.var 3) (.var 5))) (.var 0)) (.lit 0)) (.lit 0))))
    (.goto 2 [(.var 0), (.se (.var 1) (.bi .rem (.un (.wrap .i64) (.bi .mul (.var 3) (.var 5))) (.var 0)) (.lit 0) (.lit 1)), (.un (.wrap .i64) (.bi .add (.var 2) (.lit 1))), (.bi .rem (.un (.wrap .i64) (.bi .mul (.var 3) (.var 5))) (.var 0)), (.bi .add (.var 4) (.lit 1)), (.var 5)])
    (.goto 2 [(.var 0), (.se (.var 1) (.bi .rem (.un (.wrap .i64) (.bi .mul (.var 3) (.var 5))) (.var 0)) (.lit 0) (.lit 1)), (.var 2), (.bi .rem (.un (.wrap .i64) (.bi .mul (.var 3) (.var 5))) (.var 0)), (.bi .add (.var 4) (.lit 1)), (.var 5)])))
   (.br (.bi .eq (.var 2) (.bi .add (.var 0) (.lit (-1))))
    (.ret [(.var 5), (.lit 0)])
    (.goto 1 [(.var 0), (.un (.wrap .i64) (.bi .add (.var 5) (.lit 1)))])))]
set_option maxRecDepth 100000 in
theorem sRRoot : tmsRRoot.map (summaryF (cx [cRPrime] [23]) 6000 0 tmsRRoot cRRoot.rt) = ssRRoot := by kernel_rfl

noncomputable def tmsStart : List Tm := [entryTm Try.prog cStart,
  ⟨⟨⟨37, tl 20 [(0, (.yld 0)), (1, (.ptr 2 (.lit 0) (.lit 0))), (2, (.ptr 3 (.lit 0) (.lit 0))), (4, (.int .i64 (.var 4))), (5, (.bool (.var 5)))], [.at [0, 0, 1], .lp [0, 1], .blk 0], [], none⟩, [⟨36, tl 13 [(0, .nils), (1, (.func 37 [(.ptr 2 (.lit 0) (.lit 0)), (.ptr 3 (.lit 0) (.lit 0))])), (2, (.ptr 4 (.lit 0) (.lit 0))), (4, .nils), (6, (.func 37 [(.ptr 2 (.lit 0) (.lit 0)), (.ptr 3 (.lit 0) (.lit 0))]))], [.rfn 0, .blk 0, .at [1, 1]], [1], none⟩, ⟨29, tl 5 [(0, (.func 37 [(.ptr 2 (.lit 0) (.lit 0)), (.ptr 3 (.lit 0) (.lit 0))])), (2, .nils), (3, (.func 37 [(.ptr 2 (.lit 0) (.lit 0)), (.ptr 3 (.lit 0) (.lit 0))]))], [.reg [0, 1] 1, .at [1, 1]], [], none⟩, ⟨15, tl 59 [(0, (.int .i64 (.var 0))), (2, .nils), (3, (.int .i64 (.lit 0))), (4, (.ptr 6 (.lit 0) (.lit 0))), (5, (.func 28 [(.ptr 6 (.lit 0) (.lit 0))])), (6, (.int .i64 (.fn1 1 (.var 0)))), (7, (.bool (.fn1 2 (.var 0)))), (8, (.int .i64 (.fn1 3 (.fn1 1 (.var 0))))), (9, (.int .i64 (.fn1 4 (.fn1 1 (.var 0))))), (14, (.int .i64 (.var 0))), (15, (.bool (.bi .lt (.var 0) (.lit 2)))), (16, (.bool (.bi .lt (.var 0) (.lit 2)))), (17, (.int .i64 (.var 0))), (18, (.bool (.bi .lt (.lit 24) (.var 0)))), (19, (.bool (.bi .lt (.lit 24) (.var 0)))), (20, (.int .i64 (.var 0))), (21, (.int .i64 (.bi .mul (.lit 2) (.var 0)))), (22, (.int .i64 (.bi .add (.bi .mul (.lit 2) (.var 0)) (.lit (-1))))), (23, (.func 28 [(.ptr 6 (.lit 0) (.lit 0))])), (24, (.tup [(.int .i64 (.fn1 1 (.var 0))), (.bool (.fn1 2 (.var 0)))])), (25, (.int .i64 (.var 0))), (26, (.tup [(.int .i64 (.fn1 1 (.var 0))), (.bool (.fn1 2 (.var 0)))])), (27, (.int .i64 (.fn1 1 (.var 0)))), (28, (.bool (.fn1 2 (.var 0)))), (29, (.bool (.fn1 2 (.var 0)))), (30, (.tup [(.int .i64 (.fn1 3 (.fn1 1 (.var 0)))), (.int .i64 (.fn1 4 (.fn1 1 (.var 0))))])), (31, (.int .i64 (.fn1 1 (.var 0)))), (32, (.tup [(.int .i64 (.fn1 3 (.fn1 1 (.var 0)))), (.int .i64 (.fn1 4 (.fn1 1 (.var 0))))])), (33, (.int .i64 (.fn1 3 (.fn1 1 (.var 0))))), (34, (.int .i64 (.fn1 4 (.fn1 1 (.var 0))))), (35, (.int .i64 (.fn1 3 (.fn1 1 (.var 0))))), (36, (.int .i64 (.fn1 1 (.var 0)))), (37, (.func 37 [(.ptr 2 (.lit 0) (.lit 0)), (.ptr 3 (.lit 0) (.lit 0))]))], [.reg [0, 1, 0, 1, 1, 0, 1, 1, 1, 1] 3, .at [1, 1, 0, 1, 1, 0, 1, 1, 1, 1], .at [1, 1, 1, 1, 1]], [], none⟩], [(.loop ⟨36, tl 13 [(0, .nils), (1, (.func 37 [(.ptr 2 (.lit 0) (.lit 0)), (.ptr 3 (.lit 0) (.lit 0))])), (2, (.ptr 4 (.lit 0) (.lit 0))), (3, (.tup [])), (4, .nils), (5, (.tup [])), (6, (.func 37 [(.ptr 2 (.lit 0) (.lit 0)), (.ptr 3 (.lit 0) (.lit 0))])), (7, (.tup [])), (8, (.tup [])), (9, (.tup [])), (10, (.tup [])), (11, (.tup [])), (12, (.tup []))], [0, 1, 0, 1], .ready, none, 1⟩), .defd, (.cells false [(.int .i64 (.var 1))]), (.cells false [(.int .i64 (.var 2))]), (.cells false [(.slice 5 1 (.lit 0) (.un .len (.var 3)) none)]), (.rows false [(.int .i64)] (.var 3)), (.cells false [(.int .i64 (.bi .add (.bi .mul (.lit 2) (.var 0)) (.lit (-1))))])]⟩, 6, [(.fn1 2 (.var 0)), (.bi .le (.var 0) (.lit 24)), (.bi .le (.lit 2) (.var 0))]⟩,
  ⟨⟨⟨15, tl 59 [(5, (.func 28 [(.ptr 0 (.lit 0) (.lit 0))])), (12, (.slice 1 2 (.lit 0) (.un .len (.var 1)) none)), (47, (.int .i64 (.var 2))), (48, (.int .i64 (.var 3)))], [.at [0, 0, 1, 0, 1, 1, 1, 1, 1, 1], .lp [0, 1, 0, 1, 1, 1, 1, 1, 1], .blk 0, .at [1, 1, 1, 1, 1, 1, 1]], [], none⟩, [], [(.cells false [(.int .i64 (.var 0))]), (.rows false [(.int .i64), (.int .i64)] (.var 1))]⟩, 4, [(.bi .le (.lit 0) (.var 0)), (.bi .le (.lit 0) (.var 2))]⟩,
  ⟨⟨⟨15, tl 59 [(5, (.func 31 [(.ptr 0 (.lit 0) (.lit 0)), (.ptr 1 (.lit 0) (.lit 0))])), (12, (.slice 3 2 (.lit 0) (.un .len (.var 2)) none)), (47, (.int .i64 (.var 3))), (48, (.int .i64 (.var 4)))], [.at [0, 0, 1, 0, 1, 1, 1, 1, 1, 1], .lp [0, 1, 0, 1, 1, 1, 1, 1, 1], .blk 0, .at [1, 1, 1, 1, 1, 1, 1]], [], none⟩, [], [(.cells false [(.int .i64 (.var 1))]), (.cells false [(.slice 2 1 (.lit 0) (.un .len (.var 0)) none)]), (.rows false [(.int .i64)] (.var 0)), (.rows false [(.int .i64), (.int .i64)] (.var 2))]⟩, 5, [(.bi .le (.lit 0) (.var 3))]⟩]
def ssStart : List ST := [(.br (.bi .lt (.var 0) (.lit 2))
   (.ret [.nil, (.lit 2)])
   (.br (.bi .lt (.lit 24) (.var 0))
    (.ret [.nil, (.lit 2)])
    (.br (.fn1 2 (.var 0))
     (.goto 1 [(.var 0), (.fn1 3 (.fn1 1 (.var 0))), (.fn1 1 (.var 0)), .nil, (.lit 1), (.bl true)])
     (.goto 2 [(.bi .add (.bi .mul (.lit 2) (.var 0)) (.lit (-1))), .nil, (.bi .add (.var 0) (.lit (-1))), (.lit 0)])))),
  (.br (.var 5)
   (.need [(.bi .le (.bi .add (.un .len (.var 3)) (.lit 1)) (.lit 15637498706147))] (.need [(.un .not (.bi .eq (.var 2) (.lit 0)))] (.goto 1 [(.var 0), (.var 1), (.var 2), (.bi .snoc (.var 3) (.bi .cons (.var 4) .nil)), (.bi .rem (.un (.wrap .i64) (.bi .mul (.var 4) (.var 1))) (.var 2)), (.bl false)])))
   (.br (.un .not (.bi .eq (.var 4) (.lit 1)))
    (.need [(.bi .le (.bi .add (.un .len (.var 3)) (.lit 1)) (.lit 15637498706147))] (.need [(.un .not (.bi .eq (.var 2) (.lit 0)))] (.goto 1 [(.var 0), (.var 1), (.var 2), (.bi .snoc (.var 3) (.bi .cons (.var 4) .nil)), (.bi .rem (.un (.wrap .i64) (.bi .mul (.var 4) (.var 1))) (.var 2)), (.bl false)])))
    (.goto 3 [(.var 3), (.bi .quo (.bi (.bit .and .i64) (.un (.wrap .i64) (.bi .add (.fn1 1 (.var 0)) (.lit (-1)))) (.un (.wrap .i64) (.bi .add (.bi .sub (.lit 0) (.fn1 1 (.var 0))) (.lit 1)))) (.lit 2)), .nil, (.bi .add (.var 0) (.lit (-1))), (.lit 0)]))),
  (.br (.bi .lt (.var 3) (.var 2))
   (.need [(.bi .le (.bi .add (.un .len (.var 1)) (.lit 1)) (.lit 8278675785607))] (.goto 2 [(.var 0), (.bi .snoc (.var 1) (.bi .cons (.un (.wrap .i64) (.bi .add (.var 3) (.lit 1))) (.bi .cons (.un (.wrap .i64) (.bi .add (.un (.wrap .i64) (.bi .sub (.var 0) (.var 3))) (.lit (-1)))) .nil))), (.var 2), (.un (.wrap .i64) (.bi .add (.var 3) (.lit 1)))]))
   (.ret [(.var 1), (.lit 0)])),
  (.br (.bi .lt (.var 4) (.var 3))
   (.need [(.un .not (.bi .eq (.var 1) (.lit 0))), (.un .not (.bi .eq (.var 1) (.lit 0)))] (.need [(.bi .le (.lit 0) (.un (.wrap .i64) (.bi .add (.un (.wrap .i64) (.bi .mul (.un (.wrap .i64) (.bi .mul (.un (.wrap .i64) (.bi .quo (.var 4) (.var 1))) (.lit 2))) (.var 1))) (.bi .rem (.var 4) (.var 1))))), (.bi .lt (.un (.wrap .i64) (.bi .add (.un (.wrap .i64) (.bi .mul (.un (.wrap .i64) (.bi .mul (.un (.wrap .i64) (.bi .quo (.var 4) (.var 1))) (.lit 2))) (.var 1))) (.bi .rem (.var 4) (.var 1)))) (.un .len (.var 0))), (.bi .le (.lit 0) (.un (.wrap .i64) (.bi .add (.un (.wrap .i64) (.bi .mul (.un (.wrap .i64) (.bi .mul (.un (.wrap .i64) (.bi .quo (.var 4) (.var 1))) (.lit 2))) (.var 1))) (.bi .rem (.var 4) (.var 1))))), (.bi .lt (.un (.wrap .i64) (.bi .add (.un (.wrap .i64) (.bi .mul (.un (.wrap .i64) (.bi .mul (.un (.wrap .i64) (.bi .quo (.var 4) (.var 1))) (.lit 2))) (.var 1))) (.bi .rem (.var 4) (.var 1)))) (.un .len (.var 0))), (.bi .le (.lit 0) (.un (.wrap .i64) (.bi .add (.un (.wrap .i64) (.bi .add (.un (.wrap .i64) (.bi .mul (.un (.wrap .i64) (.bi .mul (.un (.wrap .i64) (.bi .quo (.var 4) (.var 1))) (.lit 2))) (.var 1))) (.bi .rem (.var 4) (.var 1)))) (.var 1)))), (.bi .lt (.un (.wrap .i64) (.bi .add (.un (.wrap .i64) (.bi .add (.un (.wrap .i64) (.bi .mul (.un (.wrap .i64) (.bi .mul (.un (.wrap .i64) (.bi .quo (.var 4) (.var 1))) (.lit 2))) (.var 1))) (.bi .rem (.var 4) (.var 1)))) (.var 1))) (.un .len (.var 0))), (.bi .le (.lit 0) (.un (.wrap .i64) (.bi .add (.un (.wrap .i64) (.bi .add (.un (.wrap .i64) (.bi .mul (.un (.wrap .i64) (.bi .mul (.un (.wrap .i64) (.bi .quo (.var 4) (.var 1))) (.lit 2))) (.var 1))) (.bi .rem (.var 4) (.var 1)))) (.var 1)))), (.bi .lt (.un (.wrap .i64) (.bi .add (.un (.wrap .i64) (.bi .add (.un (.wrap .i64) (.bi .mul (.un (.wrap .i64) (.bi .mul (.un (.wrap .i64) (.bi .quo (.var 4) (.var 1))) (.lit 2))) (.var 1))) (.bi .rem (.var 4) (.var 1)))) (.var 1))) (.un .len (.var 0)))] (.need [(.bi .le (.bi .add (.un .len (.var 2)) (.lit 1)) (.lit 8278675785607))] (.goto 3 [(.var 0), (.var 1), (.bi .snoc (.var 2) (.bi .cons (.te .get (.var 0) (.un (.wrap .i64) (.bi .add (.un (.wrap .i64) (.bi .mul (.un (.wrap .i64) (.bi .mul (.un (.wrap .i64) (.bi .quo (.var 4) (.var 1))) (.lit 2))) (.var 1))) (.bi .rem (.var 4) (.var 1)))) (.lit 0)) (.bi .cons (.te .get (.var 0) (.un (.wrap .i64) (.bi .add (.un (.wrap .i64) (.bi .add (.un (.wrap .i64) (.bi .mul (.un (.wrap .i64) (.bi .mul (.un (.wrap .i64) (.bi .quo (.var 4) (.var 1))) (.lit 2))) (.var 1))) (.bi .rem (.var 4) (.var 1)))) (.var 1))) (.lit 0)) .nil))), (.var 3), (.un (.wrap .i64) (.bi .add (.var 4) (.lit 1)))]))))
   (.ret [(.var 2), (.lit 0)]))]
set_option maxRecDepth 100000 in
theorem sStart : tmsStart.map (summaryF (cx [cPrimeT, cRoot] [15, 37]) 6000 0 tmsStart cStart.rt) = ssStart := by kernel_rfl

noncomputable def tmsPow : List Tm := [entryTm Try.prog cPow,
  ⟨⟨⟨34, tl 20 [(0, (.int .i64 (.var 0))), (1, (.int .i64 (.var 1))), (2, (.int .i64 (.var 2))), (7, (.int .i64 (.var 3))), (8, (.int .i64 (.var 4)))], [.at [0, 0, 1, 0, 1, 1], .lp [0, 1, 0, 1, 1], .blk 0, .at [1, 1, 1]], [], none⟩, [], []⟩, 5, [(.bi .le (.lit 0) (.var 0)), (.bi .le (.lit 0) (.var 4)), (.bi .le (.var 4) (.var 1)), (.bi .le (.var 0) (.lit 47)), (.bi .le (.var 1) (.lit 200)), (.bi .le (.lit 1) (.var 2)), (.bi .le (.var 2) (.lit 47))]⟩]
def ssPow : List ST := [(.goto 1 [(.var 0), (.var 1), (.var 2), (.lit 1), (.lit 0)]),
  (.br (.bi .lt (.var 4) (.var 1))
   (.goto 1 [(.var 0), (.var 1), (.var 2), (.bi .rem (.un (.wrap .i64) (.bi .mul (.var 3) (.var 0))) (.var 2)), (.bi .add (.var 4) (.lit 1))])
   (.ret [(.var 3)]))]
set_option maxRecDepth 100000 in
theorem sPow : tmsPow.map (summaryF (cx [] [34]) 6000 0 tmsPow cPow.rt) = ssPow := by kernel_rfl

noncomputable def tmsRStart : List Tm := [entryTm Try.prog cRStart,
  ⟨⟨⟨20, tl 94 [(0, (.int .i64 (.var 0))), (4, (.slice 0 2 (.lit 0) (.un .len (.var 1)) none)), (7, (.int .i64 (.var 2)))], [.at [0, 0, 1, 0, 0, 1, 0, 1, 1, 1, 1], .lp [0, 1, 0, 0, 1, 0, 1, 1, 1, 1], .blk 0, .at [1, 0, 1, 0, 1, 1, 1, 1], .at [1, 1, 1, 1, 1]], [], none⟩, [], [(.rows false [(.int .i64), (.int .i64)] (.var 1))]⟩, 3, [(.bi .le (.var 2) (.var 0)), (.bi .le (.lit 1) (.var 2)), (.un .not (.fn1 2 (.var 0))), (.bi .le (.var 0) (.lit 24)), (.bi .le (.lit 2) (.var 0))]⟩,
  ⟨⟨⟨20, tl 94 [(4, .nils), (5, (.int .i64 (.var 0))), (8, (.int .i64 (.var 1))), (10, (.int .i64 (.var 2))), (11, (.int .i64 (.var 3)))], [.at [0, 0, 0, 1, 1, 1, 1, 1, 1, 1], .lp [0, 0, 1, 1, 1, 1, 1, 1, 1], .blk 2, .at [1, 1, 1, 1, 1, 1, 1, 1]], [], none⟩, [], []⟩, 4, []⟩,
  ⟨⟨⟨20, tl 94 [(4, (.slice 0 2 (.lit 0) (.un .len (.var 5)) none)), (5, (.int .i64 (.var 0))), (8, (.int .i64 (.var 1))), (10, (.int .i64 (.var 2))), (11, (.int .i64 (.var 4))), (12, (.int .i64 (.var 3)))], [.at [0, 0, 1, 0, 1, 1, 1, 1, 1, 1, 1, 1, 1], .lp [0, 1, 0, 1, 1, 1, 1, 1, 1, 1, 1, 1], .blk 4, .at [1, 1, 1, 1, 1, 1, 1, 1, 1, 1]], [], none⟩, [], [(.rows false [(.int .i64), (.int .i64)] (.var 5))]⟩, 6, [(.un .not (.bi .eq (.bi .rem (.var 2) (.lit 2)) (.lit 0)))]⟩,
  ⟨⟨⟨20, tl 94 [(4, (.slice 0 2 (.lit 0) (.un .len (.var 5)) none)), (5, (.int .i64 (.var 0))), (8, (.int .i64 (.var 1))), (10, (.int .i64 (.var 2))), (11, (.int .i64 (.var 3))), (12, (.int .i64 (.var 4))), (13, (.int .i64 (.var 6)))], [.at [0, 0, 1, 0, 0, 1, 0, 0, 1, 0, 1, 1, 1, 1, 1, 1, 1, 1, 1], .lp [0, 1, 0, 0, 1, 0, 0, 1, 0, 1, 1, 1, 1, 1, 1, 1, 1, 1], .blk 6, .blk 5, .at [1, 1, 0, 0, 1, 0, 1, 1, 1, 1, 1, 1, 1, 1, 1], .lp [0, 1, 0, 1, 1, 1, 1, 1, 1, 1, 1, 1], .blk 4, .at [1, 1, 1, 1, 1, 1, 1, 1, 1, 1]], [], none⟩, [], [(.rows false [(.int .i64), (.int .i64)] (.var 5))]⟩, 7, [(.bi .lt (.var 4) (.var 2)), (.un .not (.bi .eq (.bi .rem (.var 2) (.lit 2)) (.lit 0)))]⟩]
def ssRStart : List ST := [(.br (.bi .lt (.var 0) (.lit 2))
   (.ret [.nil, (.lit 2)])
   (.br (.bi .lt (.lit 24) (.var 0))
    (.ret [.nil, (.lit 2)])
    (.br (.un .not (.fn1 2 (.var 0)))
     (.goto 1 [(.var 0), .nil, (.lit 1)])
     (.goto 2 [(.fn1 1 (.var 0)), (.fn1 3 (.fn1 1 (.var 0))), (.un (.wrap .i64) (.bi .add (.fn1 1 (.var 0)) (.lit (-1)))), (.lit 1)])))),
  (.br (.bi .lt (.var 2) (.var 0))
   (.need [(.bi .le (.bi .add (.un .len (.var 1)) (.lit 1)) (.lit 8278675785607))] (.goto 1 [(.var 0), (.bi .snoc (.var 1) (.bi .cons (.var 2) (.bi .cons (.bi .add (.bi .sub (.bi .mul (.lit 2) (.var 0)) (.var 2)) (.lit (-1))) .nil))), (.bi .add (.var 2) (.lit 1))]))
   (.ret [(.var 1), (.lit 0)])),
  (.br (.bi .eq (.bi .rem (.var 2) (.lit 2)) (.lit 0))
   (.goto 2 [(.var 0), (.var 1), (.un (.wrap .i64) (.bi .quo (.var 2) (.lit 2))), (.un (.wrap .i64) (.bi .mul (.lit 2) (.var 3)))])
   (.goto 3 [(.var 0), (.var 1), (.var 2), (.lit 0), (.un (.wrap .i64) (.bi .quo (.var 3) (.lit 2))), .nil])),
  (.br (.bi .lt (.var 3) (.var 2))
   (.goto 4 [(.var 0), (.var 1), (.var 2), (.var 4), (.var 3), (.var 5), (.lit 0)])
   (.ret [(.var 5), (.lit 0)])),
  (.br (.bi .lt (.var 6) (.var 3))
   (.need [(.bi .le (.lit 0) (.var 1)), (.bi .le (.var 1) (.lit 47)), (.bi .le (.lit 0) (.un (.wrap .i64) (.bi .add (.un (.wrap .i64) (.bi .mul (.un (.wrap .i64) (.bi .mul (.lit 2) (.var 3))) (.var 4))) (.var 6)))), (.bi .le (.un (.wrap .i64) (.bi .add (.un (.wrap .i64) (.bi .mul (.un (.wrap .i64) (.bi .mul (.lit 2) (.var 3))) (.var 4))) (.var 6))) (.lit 200)), (.bi .le (.lit 1) (.var 0)), (.bi .le (.var 0) (.lit 47))] (.need [(.bi .le (.lit 0) (.un (.wrap .i64) (.bi .add (.un (.wrap .i64) (.bi .add (.un (.wrap .i64) (.bi .mul (.un (.wrap .i64) (.bi .mul (.lit 2) (.var 3))) (.var 4))) (.var 6))) (.var 3)))), (.bi .le (.un (.wrap .i64) (.bi .add (.un (.wrap .i64) (.bi .add (.un (.wrap .i64) (.bi .mul (.un (.wrap .i64) (.bi .mul (.lit 2) (.var 3))) (.var 4))) (.var 6))) (.var 3))) (.lit 200))] (.need [(.bi .le (.bi .add (.un .len (.var 5)) (.lit 1)) (.lit 8278675785607))] (.goto 4 [(.var 0), (.var 1), (.var 2), (.var 3), (.var 4), (.bi .snoc (.var 5) (.bi .cons (.fn3 20 (.var 1) (.var 0) (.un (.wrap .i64) (.bi .add (.un (.wrap .i64) (.bi .mul (.un (.wrap .i64) (.bi .mul (.lit 2) (.var 3))) (.var 4))) (.var 6)))) (.bi .cons (.fn3 20 (.var 1) (.var 0) (.un (.wrap .i64) (.bi .add (.un (.wrap .i64) (.bi .add (.un (.wrap .i64) (.bi .mul (.un (.wrap .i64) (.bi .mul (.lit 2) (.var 3))) (.var 4))) (.var 6))) (.var 3)))) .nil))), (.un (.wrap .i64) (.bi .add (.var 6) (.lit 1)))]))))
   (.goto 3 [(.var 0), (.var 1), (.var 2), (.un (.wrap .i64) (.bi .add (.var 4) (.lit 1))), (.var 3), (.var 5)]))]
set_option maxRecDepth 100000 in
theorem sRStart : tmsRStart.map (summaryF (cx [cRPrimeT, cRRoot, cPow] [20]) 6000 0 tmsRStart cRStart.rt) = ssRStart := by kernel_rfl

noncomputable def tmsTimes : List Tm := [entryTm Try.prog cTimes,
  ⟨⟨⟨38, tl 91 [(0, (.int .i64 (.var 0))), (1, (.slice 0 2 (.lit 0) (.un .len (.var 1)) none)), (2, (.int .i64 (.var 2))), (3, (.int .i64 (.var 3))), (9, (.int .i64 (.var 4))), (10, (.int .i64 (.var 5)))], [.at [0, 0, 1, 0, 1, 1], .lp [0, 1, 0, 1, 1], .blk 0, .at [1, 1, 1]], [], none⟩, [], [(.rows true [(.int .i64), (.int .i64)] (.var 1))]⟩, 6, [(.bi .le (.lit 0) (.var 5)), (.bi .le (.var 5) (.un .len (.var 1))), (.bi .le (.lit 3) (.var 0)), (.bi .le (.var 0) (.lit 47)), (.bi .le (.un .len (.var 1)) (.lit 100)), (.te .elems (.var 1) (.lit 0) (.lit 47))]⟩]
def ssTimes : List ST := [(.goto 1 [(.var 0), (.var 1), (.var 2), (.var 3), (.lit 0), (.lit 0)]),
  (.br (.bi .lt (.var 5) (.un .len (.var 1)))
   (.br (.bi .eq (.var 3) (.lit 0))
    (.br (.bi .eq (.te .get (.var 1) (.var 5) (.lit 0)) (.var 2))
     (.br (.bi .eq (.te .get (.var 1) (.var 5) (.lit 1)) (.var 2))
      (.goto 1 [(.var 0), (.var 1), (.var 2), (.var 3), (.un (.wrap .i64) (.bi .add (.un (.wrap .i64) (.bi .add (.var 4) (.lit 1))) (.lit 1))), (.bi .add (.var 5) (.lit 1))])
      (.goto 1 [(.var 0), (.var 1), (.var 2), (.var 3), (.un (.wrap .i64) (.bi .add (.var 4) (.lit 1))), (.bi .add (.var 5) (.lit 1))]))
     (.br (.bi .eq (.te .get (.var 1) (.var 5) (.lit 1)) (.var 2))
      (.goto 1 [(.var 0), (.var 1), (.var 2), (.var 3), (.un (.wrap .i64) (.bi .add (.var 4) (.lit 1))), (.bi .add (.var 5) (.lit 1))])
      (.goto 1 [(.var 0), (.var 1), (.var 2), (.var 3), (.var 4), (.bi .add (.var 5) (.lit 1))])))
    (.br (.bi .eq (.var 3) (.lit 1))
     (.br (.bi .eq (.bi .rem (.bi .sub (.bi .add (.te .get (.var 1) (.var 5) (.lit 0)) (.var 0)) (.te .get (.var 1) (.var 5) (.lit 1))) (.var 0)) (.var 2))
      (.br (.bi .eq (.bi .rem (.bi .sub (.bi .add (.te .get (.var 1) (.var 5) (.lit 1)) (.var 0)) (.te .get (.var 1) (.var 5) (.lit 0))) (.var 0)) (.var 2))
       (.goto 1 [(.var 0), (.var 1), (.var 2), (.var 3), (.un (.wrap .i64) (.bi .add (.un (.wrap .i64) (.bi .add (.var 4) (.lit 1))) (.lit 1))), (.bi .add (.var 5) (.lit 1))])
       (.goto 1 [(.var 0), (.var 1), (.var 2), (.var 3), (.un (.wrap .i64) (.bi .add (.var 4) (.lit 1))), (.bi .add (.var 5) (.lit 1))]))
      (.br (.bi .eq (.bi .rem (.bi .sub (.bi .add (.te .get (.var 1) (.var 5) (.lit 1)) (.var 0)) (.te .get (.var 1) (.var 5) (.lit 0))) (.var 0)) (.var 2))
       (.goto 1 [(.var 0), (.var 1), (.var 2), (.var 3), (.un (.wrap .i64) (.bi .add (.var 4) (.lit 1))), (.bi .add (.var 5) (.lit 1))])
       (.goto 1 [(.var 0), (.var 1), (.var 2), (.var 3), (.var 4), (.bi .add (.var 5) (.lit 1))])))
     (.br (.bi .eq (.var 3) (.lit 2))
      (.br (.bi .eq (.bi .rem (.bi .add (.te .get (.var 1) (.var 5) (.lit 0)) (.te .get (.var 1) (.var 5) (.lit 1))) (.var 0)) (.var 2))
       (.goto 1 [(.var 0), (.var 1), (.var 2), (.var 3), (.un (.wrap .i64) (.bi .add (.var 4) (.lit 1))), (.bi .add (.var 5) (.lit 1))])
       (.goto 1 [(.var 0), (.var 1), (.var 2), (.var 3), (.var 4), (.bi .add (.var 5) (.lit 1))]))
      (.goto 1 [(.var 0), (.var 1), (.var 2), (.var 3), (.var 4), (.bi .add (.var 5) (.lit 1))]))))
   (.ret [(.var 4)]))]
set_option maxRecDepth 100000 in
theorem sTimes : tmsTimes.map (summaryF (cx [] [38]) 6000 1 tmsTimes cTimes.rt) = ssTimes := by kernel_rfl

noncomputable def tmsCheck : List Tm := [entryTm Try.prog cCheck,
  ⟨⟨⟨16, tl 124 [(0, (.int .i64 (.var 0))), (6, (.map 1)), (25, (.slice 0 2 (.lit 0) (.un .len (.var 1)) none)), (26, (.int .i64 (.un .len (.var 1)))), (27, (.int .i64 (.var 3)))], [.at [0, 0, 1, 0, 1, 1, 1], .lp [0, 1, 0, 1, 1, 1], .blk 0, .at [1, 1, 1, 1]], [], none⟩, [], [(.rows true [(.int .i64), (.int .i64)] (.var 1)), (.amap [(.int .i64), (.int .i64)] [(.int .i64)] true false (.var 2))]⟩, 4, [(.bi .le (.lit 0) (.var 3)), (.bi .le (.var 3) (.un .len (.var 1))), (.bi .le (.var 0) (.lit 47)), (.bi .le (.lit 3) (.var 0)), (.un .not (.bi .eq (.bi .rem (.var 0) (.lit 2)) (.lit 0))), (.bi .le (.un .len (.var 1)) (.lit 100))]⟩,
  ⟨⟨⟨16, tl 124 [(0, (.int .i64 (.var 0))), (6, (.map 1)), (8, (.ptr 2 (.lit 0) (.lit 0))), (25, (.slice 0 2 (.lit 0) (.un .len (.var 1)) none)), (26, (.int .i64 (.un .len (.var 1)))), (27, (.int .i64 (.var 6))), (31, (.agg [(.int .i64 (.var 4)), (.int .i64 (.var 5))])), (32, (.int .i64 (.var 3)))], [.at [0, 0, 1, 0, 1, 0, 0, 1, 1, 0, 0, 1, 0, 1, 1, 1], .lp [0, 1, 0, 1, 0, 0, 1, 1, 0, 0, 1, 0, 1, 1, 1], .blk 2, .at [1, 1, 0, 0, 1, 1, 0, 0, 1, 0, 1, 1, 1], .blk 1, .at [1, 1, 1, 0, 0, 1, 0, 1, 1, 1], .lp [0, 1, 0, 1, 1, 1], .blk 0, .at [1, 1, 1, 1]], [], none⟩, [], [(.rows true [(.int .i64), (.int .i64)] (.var 1)), (.amap [(.int .i64), (.int .i64)] [(.int .i64)] true false (.var 2)), (.cells false [(.int .i64 (.var 4)), (.int .i64 (.var 5))])]⟩, 7, [(.bi .le (.lit 0) (.var 3)), (.bi .le (.var 3) (.lit 2)), (.bi .le (.lit 0) (.var 6)), (.bi .lt (.var 6) (.un .len (.var 1))), (.bi .le (.var 0) (.lit 47)), (.bi .le (.lit 3) (.var 0)), (.un .not (.bi .eq (.bi .rem (.var 0) (.lit 2)) (.lit 0))), (.bi .le (.un .len (.var 1)) (.lit 100))]⟩,
  ⟨⟨⟨16, tl 124 [(0, (.int .i64 (.var 0))), (6, (.map 1)), (11, (.bool (.var 4))), (12, (.int .i64 (.var 2)))], [.at [0, 0, 1, 0, 1, 1, 1, 1, 1], .lp [0, 1, 0, 1, 1, 1, 1, 1], .blk 4, .at [1, 1, 1, 1, 1, 1]], [], none⟩, [], [(.rows true [(.int .i64), (.int .i64)] (.var 1)), (.amap [(.int .i64), (.int .i64)] [(.int .i64)] true false (.var 3))]⟩, 5, [(.bi .le (.var 2) (.var 0)), (.bi .le (.lit 1) (.var 2)), (.bi .le (.var 0) (.lit 47)), (.bi .le (.lit 3) (.var 0)), (.un .not (.bi .eq (.bi .rem (.var 0) (.lit 2)) (.lit 0))), (.bi .le (.un .len (.var 1)) (.lit 100))]⟩]
def ssCheck : List ST := [(.br (.bi .eq (.bi .rem (.var 0) (.lit 2)) (.lit 0))
   (.ret [(.bl false), (.lit 2)])
   (.br (.bi .lt (.var 0) (.lit 3))
    (.ret [(.bl false), (.lit 2)])
    (.br (.bi .lt (.lit 47) (.var 0))
     (.ret [(.bl false), (.lit 2)])
     (.goto 1 [(.var 0), (.var 1), .nil, (.lit 0)])))),
  (.br (.bi .lt (.var 3) (.un .len (.var 1)))
   (.goto 2 [(.var 0), (.var 1), (.var 2), (.lit 0), (.te .get (.var 1) (.var 3) (.lit 0)), (.te .get (.var 1) (.var 3) (.lit 1)), (.var 3)])
   (.goto 3 [(.var 0), (.var 1), (.lit 1), (.var 2), (.bi .eq (.te .get (.var 2) (.bi .find (.var 2) (.bi .cons (.lit 2) (.bi .cons (.lit 0) .nil))) (.lit 2)) (.lit 0))])),
  (.br (.bi .lt (.var 3) (.lit 2))
   (.br (.bi .lt (.te .get (.bi .row (.bi .cons (.var 4) .nil) (.bi .row (.bi .cons (.var 5) .nil) .nil)) (.var 3) (.lit 0)) (.lit 1))
    (.ret [(.bl false), (.lit 260)])
    (.br (.bi .le (.var 0) (.te .get (.bi .row (.bi .cons (.var 4) .nil) (.bi .row (.bi .cons (.var 5) .nil) .nil)) (.var 3) (.lit 0)))
     (.ret [(.bl false), (.lit 260)])
     (.goto 2 [(.var 0), (.var 1), (.te .put (.var 2) (.bi .cons (.lit 0) (.bi .cons (.te .get (.bi .row (.bi .cons (.var 4) .nil) (.bi .row (.bi .cons (.var 5) .nil) .nil)) (.var 3) (.lit 0)) .nil)) (.bi .cons (.lit 0) (.bi .cons (.te .get (.bi .row (.bi .cons (.var 4) .nil) (.bi .row (.bi .cons (.var 5) .nil) .nil)) (.var 3) (.lit 0)) (.bi .cons (.un (.wrap .i64) (.bi .add (.te .get (.var 2) (.bi .find (.var 2) (.bi .cons (.lit 0) (.bi .cons (.te .get (.bi .row (.bi .cons (.var 4) .nil) (.bi .row (.bi .cons (.var 5) .nil) .nil)) (.var 3) (.lit 0)) .nil))) (.lit 2)) (.lit 1))) .nil)))), (.bi .add (.var 3) (.lit 1)), (.var 4), (.var 5), (.var 6)])))
   (.goto 1 [(.var 0), (.var 1), (.te .put (.te .put (.te .put (.var 2) (.bi .cons (.lit 1) (.bi .cons (.bi .rem (.un (.wrap .i64) (.bi .add (.un (.wrap .i64) (.bi .sub (.var 4) (.var 5))) (.var 0))) (.var 0)) .nil)) (.bi .cons (.lit 1) (.bi .cons (.bi .rem (.un (.wrap .i64) (.bi .add (.un (.wrap .i64) (.bi .sub (.var 4) (.var 5))) (.var 0))) (.var 0)) (.bi .cons (.un (.wrap .i64) (.bi .add (.te .get (.var 2) (.bi .find (.var 2) (.bi .cons (.lit 1) (.bi .cons (.bi .rem (.un (.wrap .i64) (.bi .add (.un (.wrap .i64) (.bi .sub (.var 4) (.var 5))) (.var 0))) (.var 0)) .nil))) (.lit 2)) (.lit 1))) .nil)))) (.bi .cons (.lit 1) (.bi .cons (.bi .rem (.un (.wrap .i64) (.bi .add (.un (.wrap .i64) (.bi .sub (.var 5) (.var 4))) (.var 0))) (.var 0)) .nil)) (.bi .cons (.lit 1) (.bi .cons (.bi .rem (.un (.wrap .i64) (.bi .add (.un (.wrap .i64) (.bi .sub (.var 5) (.var 4))) (.var 0))) (.var 0)) (.bi .cons (.un (.wrap .i64) (.bi .add (.te .get (.te .put (.var 2) (.bi .cons (.lit 1) (.bi .cons (.bi .rem (.un (.wrap .i64) (.bi .add (.un (.wrap .i64) (.bi .sub (.var 4) (.var 5))) (.var 0))) (.var 0)) .nil)) (.bi .cons (.lit 1) (.bi .cons (.bi .rem (.un (.wrap .i64) (.bi .add (.un (.wrap .i64) (.bi .sub (.var 4) (.var 5))) (.var 0))) (.var 0)) (.bi .cons (.un (.wrap .i64) (.bi .add (.te .get (.var 2) (.bi .find (.var 2) (.bi .cons (.lit 1) (.bi .cons (.bi .rem (.un (.wrap .i64) (.bi .add (.un (.wrap .i64) (.bi .sub (.var 4) (.var 5))) (.var 0))) (.var 0)) .nil))) (.lit 2)) (.lit 1))) .nil)))) (.bi .find (.te .put (.var 2) (.bi .cons (.lit 1) (.bi .cons (.bi .rem (.un (.wrap .i64) (.bi .add (.un (.wrap .i64) (.bi .sub (.var 4) (.var 5))) (.var 0))) (.var 0)) .nil)) (.bi .cons (.lit 1) (.bi .cons (.bi .rem (.un (.wrap .i64) (.bi .add (.un (.wrap .i64) (.bi .sub (.var 4) (.var 5))) (.var 0))) (.var 0)) (.bi .cons (.un (.wrap .i64) (.bi .add (.te .get (.var 2) (.bi .find (.var 2) (.bi .cons (.lit 1) (.bi .cons (.bi .rem (.un (.wrap .i64) (.bi .add (.un (.wrap .i64) (.bi .sub (.var 4) (.var 5))) (.var 0))) (.var 0)) .nil))) (.lit 2)) (.lit 1))) .nil)))) (.bi .cons (.lit 1) (.bi .cons (.bi .rem (.un (.wrap .i64) (.bi .add (.un (.wrap .i64) (.bi .sub (.var 5) (.var 4))) (.var 0))) (.var 0)) .nil))) (.lit 2)) (.lit 1))) .nil)))) (.bi .cons (.lit 2) (.bi .cons (.bi .rem (.un (.wrap .i64) (.bi .add (.var 4) (.var 5))) (.var 0)) .nil)) (.bi .cons (.lit 2) (.bi .cons (.bi .rem (.un (.wrap .i64) (.bi .add (.var 4) (.var 5))) (.var 0)) (.bi .cons (.un (.wrap .i64) (.bi .add (.te .get (.te .put (.te .put (.var 2) (.bi .cons (.lit 1) (.bi .cons (.bi .rem (.un (.wrap .i64) (.bi .add (.un (.wrap .i64) (.bi .sub (.var 4) (.var 5))) (.var 0))) (.var 0)) .nil)) (.bi .cons (.lit 1) (.bi .cons (.bi .rem (.un (.wrap .i64) (.bi .add (.un (.wrap .i64) (.bi .sub (.var 4) (.var 5))) (.var 0))) (.var 0)) (.bi .cons (.un (.wrap .i64) (.bi .add (.te .get (.var 2) (.bi .find (.var 2) (.bi .cons (.lit 1) (.bi .cons (.bi .rem (.un (.wrap .i64) (.bi .add (.un (.wrap .i64) (.bi .sub (.var 4) (.var 5))) (.var 0))) (.var 0)) .nil))) (.lit 2)) (.lit 1))) .nil)))) (.bi .cons (.lit 1) (.bi .cons (.bi .rem (.un (.wrap .i64) (.bi .add (.un (.wrap .i64) (.bi .sub (.var 5) (.var 4))) (.var 0))) (.var 0)) .nil)) (.bi .cons (.lit 1) (.bi .cons (.bi .rem (.un (.wrap .i64) (.bi .add (.un (.wrap .i64) (.bi .sub (.var 5) (.var 4))) (.var 0))) (.var 0)) (.bi .cons (.un (.wrap .i64) (.bi .add (.te .get (.te .put (.var 2) (.bi .cons (.lit 1) (.bi .cons (.bi .rem (.un (.wrap .i64) (.bi .add (.un (.wrap .i64) (.bi .sub (.var 4) (.var 5))) (.var 0))) (.var 0)) .nil)) (.bi .cons (.lit 1) (.bi .cons (.bi .rem (.un (.wrap .i64) (.bi .add (.un (.wrap .i64) (.bi .sub (.var 4) (.var 5))) (.var 0))) (.var 0)) (.bi .cons (.un (.wrap .i64) (.bi .add (.te .get (.var 2) (.bi .find (.var 2) (.bi .cons (.lit 1) (.bi .cons (.bi .rem (.un (.wrap .i64) (.bi .add (.un (.wrap .i64) (.bi .sub (.var 4) (.var 5))) (.var 0))) (.var 0)) .nil))) (.lit 2)) (.lit 1))) .nil)))) (.bi .find (.te .put (.var 2) (.bi .cons (.lit 1) (.bi .cons (.bi .rem (.un (.wrap .i64) (.bi .add (.un (.wrap .i64) (.bi .sub (.var 4) (.var 5))) (.var 0))) (.var 0)) .nil)) (.bi .cons (.lit 1) (.bi .cons (.bi .rem (.un (.wrap .i64) (.bi .add (.un (.wrap .i64) (.bi .sub (.var 4) (.var 5))) (.var 0))) (.var 0)) (.bi .cons (.un (.wrap .i64) (.bi .add (.te .get (.var 2) (.bi .find (.var 2) (.bi .cons (.lit 1) (.bi .cons (.bi .rem (.un (.wrap .i64) (.bi .add (.un (.wrap .i64) (.bi .sub (.var 4) (.var 5))) (.var 0))) (.var 0)) .nil))) (.lit 2)) (.lit 1))) .nil)))) (.bi .cons (.lit 1) (.bi .cons (.bi .rem (.un (.wrap .i64) (.bi .add (.un (.wrap .i64) (.bi .sub (.var 5) (.var 4))) (.var 0))) (.var 0)) .nil))) (.lit 2)) (.lit 1))) .nil)))) (.bi .find (.te .put (.te .put (.var 2) (.bi .cons (.lit 1) (.bi .cons (.bi .rem (.un (.wrap .i64) (.bi .add (.un (.wrap .i64) (.bi .sub (.var 4) (.var 5))) (.var 0))) (.var 0)) .nil)) (.bi .cons (.lit 1) (.bi .cons (.bi .rem (.un (.wrap .i64) (.bi .add (.un (.wrap .i64) (.bi .sub (.var 4) (.var 5))) (.var 0))) (.var 0)) (.bi .cons (.un (.wrap .i64) (.bi .add (.te .get (.var 2) (.bi .find (.var 2) (.bi .cons (.lit 1) (.bi .cons (.bi .rem (.un (.wrap .i64) (.bi .add (.un (.wrap .i64) (.bi .sub (.var 4) (.var 5))) (.var 0))) (.var 0)) .nil))) (.lit 2)) (.lit 1))) .nil)))) (.bi .cons (.lit 1) (.bi .cons (.bi .rem (.un (.wrap .i64) (.bi .add (.un (.wrap .i64) (.bi .sub (.var 5) (.var 4))) (.var 0))) (.var 0)) .nil)) (.bi .cons (.lit 1) (.bi .cons (.bi .rem (.un (.wrap .i64) (.bi .add (.un (.wrap .i64) (.bi .sub (.var 5) (.var 4))) (.var 0))) (.var 0)) (.bi .cons (.un (.wrap .i64) (.bi .add (.te .get (.te .put (.var 2) (.bi .cons (.lit 1) (.bi .cons (.bi .rem (.un (.wrap .i64) (.bi .add (.un (.wrap .i64) (.bi .sub (.var 4) (.var 5))) (.var 0))) (.var 0)) .nil)) (.bi .cons (.lit 1) (.bi .cons (.bi .rem (.un (.wrap .i64) (.bi .add (.un (.wrap .i64) (.bi .sub (.var 4) (.var 5))) (.var 0))) (.var 0)) (.bi .cons (.un (.wrap .i64) (.bi .add (.te .get (.var 2) (.bi .find (.var 2) (.bi .cons (.lit 1) (.bi .cons (.bi .rem (.un (.wrap .i64) (.bi .add (.un (.wrap .i64) (.bi .sub (.var 4) (.var 5))) (.var 0))) (.var 0)) .nil))) (.lit 2)) (.lit 1))) .nil)))) (.bi .find (.te .put (.var 2) (.bi .cons (.lit 1) (.bi .cons (.bi .rem (.un (.wrap .i64) (.bi .add (.un (.wrap .i64) (.bi .sub (.var 4) (.var 5))) (.var 0))) (.var 0)) .nil)) (.bi .cons (.lit 1) (.bi .cons (.bi .rem (.un (.wrap .i64) (.bi .add (.un (.wrap .i64) (.bi .sub (.var 4) (.var 5))) (.var 0))) (.var 0)) (.bi .cons (.un (.wrap .i64) (.bi .add (.te .get (.var 2) (.bi .find (.var 2) (.bi .cons (.lit 1) (.bi .cons (.bi .rem (.un (.wrap .i64) (.bi .add (.un (.wrap .i64) (.bi .sub (.var 4) (.var 5))) (.var 0))) (.var 0)) .nil))) (.lit 2)) (.lit 1))) .nil)))) (.bi .cons (.lit 1) (.bi .cons (.bi .rem (.un (.wrap .i64) (.bi .add (.un (.wrap .i64) (.bi .sub (.var 5) (.var 4))) (.var 0))) (.var 0)) .nil))) (.lit 2)) (.lit 1))) .nil)))) (.bi .cons (.lit 2) (.bi .cons (.bi .rem (.un (.wrap .i64) (.bi .add (.var 4) (.var 5))) (.var 0)) .nil))) (.lit 2)) (.lit 1))) .nil)))), (.bi .add (.var 6) (.lit 1))])),
  (.br (.bi .lt (.var 2) (.var 0))
   (.br (.un .not (.bi .eq (.te .get (.var 3) (.bi .find (.var 3) (.bi .cons (.lit 0) (.bi .cons (.var 2) .nil))) (.lit 2)) (.lit 1)))
    (.ret [(.bl false), (.lit 260)])
    (.br (.un .not (.bi .eq (.te .get (.var 3) (.bi .find (.var 3) (.bi .cons (.lit 1) (.bi .cons (.var 2) .nil))) (.lit 2)) (.lit 1)))
     (.ret [(.bl false), (.lit 260)])
     (.br (.var 4)
      (.goto 3 [(.var 0), (.var 1), (.bi .add (.var 2) (.lit 1)), (.var 3), (.bi .le (.te .get (.var 3) (.bi .find (.var 3) (.bi .cons (.lit 2) (.bi .cons (.var 2) .nil))) (.lit 2)) (.lit 1))])
      (.goto 3 [(.var 0), (.var 1), (.bi .add (.var 2) (.lit 1)), (.var 3), (.bl false)]))))
   (.ret [(.var 4), (.lit 0)]))]
set_option maxRecDepth 100000 in
theorem sCheck : tmsCheck.map (summaryF (cx [] [16]) 6000 1 tmsCheck cCheck.rt) = ssCheck := by kernel_rfl

noncomputable def tmsRCheck : List Tm := [entryTm Try.prog cRCheck,
  ⟨⟨⟨32, tl 91 [(0, (.int .i64 (.var 0))), (1, (.slice 0 2 (.lit 0) (.un .len (.var 1)) none)), (6, (.int .i64 (.var 2)))], [.at [0, 0, 1, 0, 1, 1, 1], .lp [0, 1, 0, 1, 1, 1], .blk 0, .at [1, 1, 1, 1]], [], none⟩, [], [(.rows true [(.int .i64), (.int .i64)] (.var 1))]⟩, 3, [(.bi .le (.lit 3) (.var 0)), (.bi .le (.var 0) (.lit 47)), (.bi .le (.lit 0) (.var 2)), (.bi .le (.var 2) (.un .len (.var 1))), (.bi .eq (.un .len (.var 1)) (.bi .quo (.bi .add (.var 0) (.lit (-1))) (.lit 2))), (.un .not (.bi .eq (.bi .rem (.var 0) (.lit 2)) (.lit 0)))]⟩,
  ⟨⟨⟨32, tl 91 [(0, (.int .i64 (.var 0))), (1, (.slice 0 2 (.lit 0) (.un .len (.var 1)) none)), (7, (.bool (.var 2))), (8, (.int .i64 (.var 3)))], [.at [0, 0, 1, 0, 1, 1, 1, 1, 1], .lp [0, 1, 0, 1, 1, 1, 1, 1], .blk 2, .at [1, 1, 1, 1, 1, 1]], [], none⟩, [], [(.rows true [(.int .i64), (.int .i64)] (.var 1))]⟩, 4, [(.bi .le (.lit 3) (.var 0)), (.bi .le (.var 0) (.lit 47)), (.bi .le (.var 3) (.var 0)), (.bi .le (.lit 1) (.var 3)), (.te .elems (.var 1) (.lit 0) (.lit 47)), (.bi .eq (.un .len (.var 1)) (.bi .quo (.bi .add (.var 0) (.lit (-1))) (.lit 2))), (.un .not (.bi .eq (.bi .rem (.var 0) (.lit 2)) (.lit 0)))]⟩]
def ssRCheck : List ST := [(.br (.bi .eq (.bi .rem (.var 0) (.lit 2)) (.lit 0))
   (.ret [(.bl false), (.lit 2)])
   (.br (.bi .lt (.var 0) (.lit 3))
    (.ret [(.bl false), (.lit 2)])
    (.br (.bi .lt (.lit 47) (.var 0))
     (.ret [(.bl false), (.lit 2)])
     (.br (.un .not (.bi .eq (.un .len (.var 1)) (.bi .quo (.bi .add (.var 0) (.lit (-1))) (.lit 2))))
      (.ret [(.bl false), (.lit 260)])
      (.goto 1 [(.var 0), (.var 1), (.lit 0)]))))),
  (.br (.bi .lt (.var 2) (.un .len (.var 1)))
   (.br (.bi .lt (.te .get (.var 1) (.var 2) (.lit 0)) (.lit 1))
    (.ret [(.bl false), (.lit 260)])
    (.br (.bi .le (.var 0) (.te .get (.var 1) (.var 2) (.lit 0)))
     (.ret [(.bl false), (.lit 260)])
     (.br (.bi .lt (.te .get (.var 1) (.var 2) (.lit 1)) (.lit 1))
      (.ret [(.bl false), (.lit 260)])
      (.br (.bi .le (.var 0) (.te .get (.var 1) (.var 2) (.lit 1)))
       (.ret [(.bl false), (.lit 260)])
       (.goto 1 [(.var 0), (.var 1), (.un (.wrap .i64) (.bi .add (.var 2) (.lit 1)))])))))
   (.need [(.te .elems (.var 1) (.lit 0) (.lit 47))] (.goto 2 [(.var 0), (.var 1), (.bi .eq (.fn4 0 (.var 0) (.var 1) (.lit 2) (.lit 0)) (.lit 0)), (.lit 1)]))),
  (.br (.bi .lt (.var 3) (.var 0))
   (.br (.un .not (.bi .eq (.fn4 0 (.var 0) (.var 1) (.lit 0) (.var 3)) (.lit 1)))
    (.ret [(.bl false), (.lit 260)])
    (.br (.un .not (.bi .eq (.fn4 0 (.var 0) (.var 1) (.lit 1) (.var 3)) (.lit 1)))
     (.ret [(.bl false), (.lit 260)])
     (.br (.bi .lt (.lit 1) (.fn4 0 (.var 0) (.var 1) (.lit 2) (.var 3)))
      (.goto 2 [(.var 0), (.var 1), (.bl false), (.bi .add (.var 3) (.lit 1))])
      (.goto 2 [(.var 0), (.var 1), (.var 2), (.bi .add (.var 3) (.lit 1))]))))
   (.ret [(.var 2), (.lit 0)]))]
set_option maxRecDepth 100000 in
theorem sRCheck : tmsRCheck.map (summaryF (cx [cTimes] [32]) 6000 1 tmsRCheck cRCheck.rt) = ssRCheck := by kernel_rfl

noncomputable def tmsFrom : List Tm := [entryTm Try.prog cFrom,
  ⟨⟨⟨17, tl 103 [(0, (.int .i64 (.var 0))), (2, (.slice 0 2 (.lit 0) (.un .len (.var 2)) none)), (6, (.ptr 1 (.lit 0) (.lit 0))), (10, (.ptr 2 (.lit 0) (.lit 0))), (45, (.int .i64 (.var 1))), (46, (.int .i64 (.var 5)))], [.at [0, 0, 1, 0, 1, 1, 1, 1, 1], .lp [0, 1, 0, 1, 1, 1, 1, 1], .blk 1, .at [1, 1, 1, 1, 1, 1]], [], none⟩, [], [(.rows true [(.int .i64), (.int .i64)] (.var 2)), (.cells false [(.int .i64 (.lit 0)), (.int .i64 (.lit 0)), (.int .i64 (.lit 0)), (.int .i64 (.lit 0)), (.int .i64 (.lit 0)), .nils]), (.cells false [(.int .i64 (.bi .quo (.un (.wrap .i64) (.bi .add (.var 0) (.lit 1))) (.lit 2))), (.int .i64 (.var 1)), (.int .i64 (.var 0)), (.int .i64 (.var 3)), (.int .i64 (.lit 1)), (.slice 3 5 (.lit 0) (.un .len (.var 4)) none)]), (.rows false [(.int .i64), (.int .i64), (.int .i64), (.int .i64), (.int .i64)] (.var 4))]⟩, 6, [(.bi .le (.var 1) (.var 0)), (.bi .le (.lit 1) (.var 1)), (.bi .eq (.fn2 1 (.var 0) (.var 2)) (.lit 0)), (.bi .le (.un .len (.var 2)) (.lit 100))]⟩,
  ⟨⟨⟨17, tl 103 [(0, (.int .i64 (.var 0))), (2, (.slice 0 2 (.lit 0) (.un .len (.var 2)) none)), (6, (.ptr 1 (.lit 0) (.lit 0))), (10, (.ptr 2 (.lit 0) (.lit 0))), (11, (.int .i64 (.var 6))), (45, (.int .i64 (.var 1))), (46, (.int .i64 (.var 6))), (61, (.slice 0 2 (.lit 0) (.un .len (.var 2)) none)), (62, (.int .i64 (.un .len (.var 2)))), (63, (.int .i64 (.var 5)))], [.at [0, 0, 1, 1, 1, 0, 0, 1, 1, 0, 0, 1, 0, 1, 1, 1, 1, 1], .lp [0, 1, 1, 1, 0, 0, 1, 1, 0, 0, 1, 0, 1, 1, 1, 1, 1], .blk 3, .blk 2, .at [1, 1, 1, 0, 0, 1, 0, 1, 1, 1, 1, 1], .lp [0, 1, 0, 1, 1, 1, 1, 1], .blk 1, .at [1, 1, 1, 1, 1, 1]], [], none⟩, [], [(.rows true [(.int .i64), (.int .i64)] (.var 2)), (.cells false [(.int .i64 (.lit 0)), (.int .i64 (.lit 0)), (.int .i64 (.lit 0)), (.int .i64 (.lit 0)), (.int .i64 (.lit 0)), .nils]), (.cells false [(.int .i64 (.bi .quo (.un (.wrap .i64) (.bi .add (.var 0) (.lit 1))) (.lit 2))), (.int .i64 (.var 1)), (.int .i64 (.var 0)), (.int .i64 (.var 3)), (.int .i64 (.lit 1)), (.slice 3 5 (.lit 0) (.un .len (.var 4)) none)]), (.rows false [(.int .i64), (.int .i64), (.int .i64), (.int .i64), (.int .i64)] (.var 4))]⟩, 7, [(.bi .le (.lit 0) (.var 5)), (.bi .le (.var 5) (.un .len (.var 2))), (.bi .le (.var 5) (.un .len (.var 4))), (.bi .le (.var 6) (.var 1)), (.bi .le (.var 1) (.var 0)), (.bi .le (.lit 1) (.var 1)), (.bi .eq (.fn2 1 (.var 0) (.var 2)) (.lit 0)), (.bi .le (.un .len (.var 2)) (.lit 100))]⟩]
def ssFrom : List ST := [(.br (.un .not (.bi .eq (.fn2 1 (.var 0) (.var 2)) (.lit 0)))
   (.ret [(.lit 0), (.lit 0), (.lit 0), (.lit 0), (.lit 0), .nil, (.fn2 1 (.var 0) (.var 2))])
   (.br (.bi .lt (.var 1) (.lit 1))
    (.ret [(.lit 0), (.lit 0), (.lit 0), (.lit 0), (.lit 0), .nil, (.lit 2)])
    (.br (.bi .lt (.var 0) (.var 1))
     (.ret [(.lit 0), (.lit 0), (.lit 0), (.lit 0), (.lit 0), .nil, (.lit 5)])
     (.br (.un .not (.fn2 0 (.var 0) (.var 2)))
      (.goto 1 [(.var 0), (.var 1), (.var 2), (.bi .quo (.un (.wrap .i64) (.bi .add (.var 0) (.lit 1))) (.lit 2)), .nil, (.lit 0)])
      (.goto 1 [(.var 0), (.var 1), (.var 2), (.lit 1), .nil, (.lit 0)]))))),
  (.br (.bi .lt (.var 5) (.var 1))
   (.need [(.bi .le (.bi .add (.un .len (.var 4)) (.lit 1)) (.lit 3432621667203))] (.goto 2 [(.var 0), (.var 1), (.var 2), (.var 3), (.bi .snoc (.var 4) (.bi .cons (.var 5) (.bi .cons (.lit 0) (.bi .cons (.un (.wrap .i64) (.bi .add (.var 0) (.lit 1))) (.bi .cons (.un (.wrap .i64) (.bi .add (.var 5) (.lit 1))) (.bi .cons (.var 5) .nil)))))), (.lit 0), (.var 5)]))
   (.ret [(.bi .quo (.un (.wrap .i64) (.bi .add (.var 0) (.lit 1))) (.lit 2)), (.var 1), (.var 0), (.var 3), (.lit 1), (.var 4), (.lit 0)])),
  (.br (.bi .lt (.var 5) (.un .len (.var 2)))
   (.need [(.bi .le (.bi .add (.un .len (.var 4)) (.lit 1)) (.lit 3432621667203))] (.goto 2 [(.var 0), (.var 1), (.var 2), (.var 3), (.bi .snoc (.var 4) (.bi .cons (.var 6) (.bi .cons (.bi .add (.var 5) (.lit 1)) (.bi .cons (.un (.wrap .i64) (.bi .add (.bi .rem (.un (.wrap .i64) (.bi .add (.te .get (.var 2) (.var 5) (.lit 0)) (.var 6))) (.var 0)) (.lit 1))) (.bi .cons (.un (.wrap .i64) (.bi .add (.bi .rem (.un (.wrap .i64) (.bi .add (.te .get (.var 2) (.var 5) (.lit 1)) (.var 6))) (.var 0)) (.lit 1))) (.bi .cons (.bi .rem (.un (.wrap .i64) (.bi .add (.un (.wrap .i64) (.bi .add (.te .get (.var 2) (.var 5) (.lit 0)) (.te .get (.var 2) (.var 5) (.lit 1)))) (.var 6))) (.var 0)) .nil)))))), (.bi .add (.var 5) (.lit 1)), (.var 6)]))
   (.goto 1 [(.var 0), (.var 1), (.var 2), (.var 3), (.var 4), (.un (.wrap .i64) (.bi .add (.var 6) (.lit 1)))]))]
set_option maxRecDepth 100000 in
theorem sFrom : tmsFrom.map (summaryF (cx [cCheck] [17]) 6000 1 tmsFrom cFrom.rt) = ssFrom := by kernel_rfl

noncomputable def tmsRFrom : List Tm := [entryTm Try.prog cRFrom,
  ⟨⟨⟨33, tl 105 [(0, (.int .i64 (.var 0))), (1, (.int .i64 (.var 1))), (2, (.slice 0 2 (.lit 0) (.un .len (.var 2)) none)), (6, (.ptr 1 (.lit 0) (.lit 0))), (10, (.int .i64 (.bi .quo (.un (.wrap .i64) (.bi .add (.var 0) (.lit 1))) (.lit 2)))), (11, (.ptr 2 (.lit 0) (.lit 0))), (12, (.int .i64 (.var 5)))], [.at [0, 0, 1, 0, 1, 1, 1, 1, 1, 1, 1, 1], .lp [0, 1, 0, 1, 1, 1, 1, 1, 1, 1, 1], .blk 0, .at [1, 1, 1, 1, 1, 1, 1, 1, 1]], [], none⟩, [], [(.rows true [(.int .i64), (.int .i64)] (.var 2)), (.cells false [(.int .i64 (.lit 0)), (.int .i64 (.lit 0)), (.int .i64 (.lit 0)), (.int .i64 (.lit 0)), (.int .i64 (.lit 0)), .nils]), (.cells false [(.int .i64 (.bi .quo (.un (.wrap .i64) (.bi .add (.var 0) (.lit 1))) (.lit 2))), (.int .i64 (.var 1)), (.int .i64 (.var 0)), (.int .i64 (.var 3)), (.int .i64 (.lit 1)), (.slice 3 5 (.lit 0) (.un .len (.var 4)) none)]), (.rows false [(.int .i64), (.int .i64), (.int .i64), (.int .i64), (.int .i64)] (.var 4))]⟩, 6, [(.bi .le (.var 1) (.var 0)), (.bi .le (.lit 1) (.var 1)), (.bi .eq (.fn2 1 (.var 0) (.var 2)) (.lit 0)), (.bi .le (.un .len (.var 2)) (.lit 100))]⟩,
  ⟨⟨⟨33, tl 105 [(0, (.int .i64 (.var 0))), (1, (.int .i64 (.var 1))), (2, (.slice 0 2 (.lit 0) (.un .len (.var 2)) none)), (6, (.ptr 1 (.lit 0) (.lit 0))), (10, (.int .i64 (.bi .quo (.un (.wrap .i64) (.bi .add (.var 0) (.lit 1))) (.lit 2)))), (11, (.ptr 2 (.lit 0) (.lit 0))), (12, (.int .i64 (.var 6))), (13, (.int .i64 (.var 5)))], [.at [0, 0, 1, 1, 0, 0, 1, 0, 0, 1, 0, 1, 1, 1, 1, 1, 1, 1, 1], .lp [0, 1, 1, 0, 0, 1, 0, 0, 1, 0, 1, 1, 1, 1, 1, 1, 1, 1], .blk 2, .blk 1, .at [1, 1, 0, 0, 1, 0, 1, 1, 1, 1, 1, 1, 1, 1], .lp [0, 1, 0, 1, 1, 1, 1, 1, 1, 1, 1], .blk 0, .at [1, 1, 1, 1, 1, 1, 1, 1, 1]], [], none⟩, [], [(.rows true [(.int .i64), (.int .i64)] (.var 2)), (.cells false [(.int .i64 (.lit 0)), (.int .i64 (.lit 0)), (.int .i64 (.lit 0)), (.int .i64 (.lit 0)), (.int .i64 (.lit 0)), .nils]), (.cells false [(.int .i64 (.bi .quo (.un (.wrap .i64) (.bi .add (.var 0) (.lit 1))) (.lit 2))), (.int .i64 (.var 1)), (.int .i64 (.var 0)), (.int .i64 (.var 3)), (.int .i64 (.lit 1)), (.slice 3 5 (.lit 0) (.un .len (.var 4)) none)]), (.rows false [(.int .i64), (.int .i64), (.int .i64), (.int .i64), (.int .i64)] (.var 4))]⟩, 7, [(.bi .le (.lit 0) (.var 5)), (.bi .le (.var 5) (.un .len (.var 2))), (.bi .le (.var 5) (.un .len (.var 4))), (.bi .le (.var 6) (.var 1)), (.bi .le (.var 1) (.var 0)), (.bi .le (.lit 1) (.var 1)), (.bi .eq (.fn2 1 (.var 0) (.var 2)) (.lit 0)), (.bi .le (.un .len (.var 2)) (.lit 100))]⟩]
def ssRFrom : List ST := [(.br (.un .not (.bi .eq (.fn2 1 (.var 0) (.var 2)) (.lit 0)))
   (.ret [(.lit 0), (.lit 0), (.lit 0), (.lit 0), (.lit 0), .nil, (.fn2 1 (.var 0) (.var 2))])
   (.br (.bi .lt (.var 1) (.lit 1))
    (.ret [(.lit 0), (.lit 0), (.lit 0), (.lit 0), (.lit 0), .nil, (.lit 2)])
    (.br (.bi .lt (.var 0) (.var 1))
     (.ret [(.lit 0), (.lit 0), (.lit 0), (.lit 0), (.lit 0), .nil, (.lit 5)])
     (.br (.fn2 0 (.var 0) (.var 2))
      (.goto 1 [(.var 0), (.var 1), (.var 2), (.lit 1), .nil, (.lit 0)])
      (.goto 1 [(.var 0), (.var 1), (.var 2), (.bi .quo (.un (.wrap .i64) (.bi .add (.var 0) (.lit 1))) (.lit 2)), .nil, (.lit 0)]))))),
  (.br (.bi .lt (.var 5) (.var 1))
   (.need [(.bi .le (.bi .add (.un .len (.var 4)) (.lit 1)) (.lit 3432621667203))] (.goto 2 [(.var 0), (.var 1), (.var 2), (.var 3), (.bi .snoc (.var 4) (.bi .cons (.var 5) (.bi .cons (.lit 0) (.bi .cons (.un (.wrap .i64) (.bi .mul (.lit 2) (.bi .quo (.un (.wrap .i64) (.bi .add (.var 0) (.lit 1))) (.lit 2)))) (.bi .cons (.un (.wrap .i64) (.bi .add (.var 5) (.lit 1))) (.bi .cons (.var 5) .nil)))))), (.lit 0), (.var 5)]))
   (.ret [(.bi .quo (.un (.wrap .i64) (.bi .add (.var 0) (.lit 1))) (.lit 2)), (.var 1), (.var 0), (.var 3), (.lit 1), (.var 4), (.lit 0)])),
  (.br (.bi .lt (.var 5) (.un .len (.var 2)))
   (.need [(.bi .le (.bi .add (.un .len (.var 4)) (.lit 1)) (.lit 3432621667203))] (.goto 2 [(.var 0), (.var 1), (.var 2), (.var 3), (.bi .snoc (.var 4) (.bi .cons (.var 6) (.bi .cons (.bi .add (.var 5) (.lit 1)) (.bi .cons (.un (.wrap .i64) (.bi .add (.bi .rem (.un (.wrap .i64) (.bi .add (.te .get (.var 2) (.var 5) (.lit 0)) (.var 6))) (.var 0)) (.lit 1))) (.bi .cons (.un (.wrap .i64) (.bi .add (.bi .rem (.un (.wrap .i64) (.bi .add (.te .get (.var 2) (.var 5) (.lit 1)) (.var 6))) (.var 0)) (.lit 1))) (.bi .cons (.bi .rem (.un (.wrap .i64) (.bi .add (.un (.wrap .i64) (.bi .add (.te .get (.var 2) (.var 5) (.lit 0)) (.te .get (.var 2) (.var 5) (.lit 1)))) (.var 6))) (.var 0)) .nil)))))), (.bi .add (.var 5) (.lit 1)), (.var 6)]))
   (.goto 1 [(.var 0), (.var 1), (.var 2), (.var 3), (.var 4), (.un (.wrap .i64) (.bi .add (.var 6) (.lit 1)))]))]
set_option maxRecDepth 100000 in
theorem sRFrom : tmsRFrom.map (summaryF (cx [cRCheck] [33]) 6000 1 tmsRFrom cRFrom.rt) = ssRFrom := by kernel_rfl

noncomputable def tmsMake : List Tm := [entryTm Try.prog cMake]
def ssMake : List ST := [(.br (.un .not (.bi .eq (.fn1 6 (.var 0)) (.lit 0)))
   (.ret [(.lit 0), (.lit 0), (.lit 0), (.lit 0), (.lit 0), .nil, (.fn1 6 (.var 0))])
   (.need [(.bi .le (.un .len (.fn1 5 (.var 0))) (.lit 100))] (.ret [(.fn3 2 (.un (.wrap .i64) (.bi .add (.un (.wrap .i64) (.bi .mul (.lit 2) (.var 0))) (.lit (-1)))) (.var 1) (.fn1 5 (.var 0))), (.fn3 3 (.un (.wrap .i64) (.bi .add (.un (.wrap .i64) (.bi .mul (.lit 2) (.var 0))) (.lit (-1)))) (.var 1) (.fn1 5 (.var 0))), (.fn3 4 (.un (.wrap .i64) (.bi .add (.un (.wrap .i64) (.bi .mul (.lit 2) (.var 0))) (.lit (-1)))) (.var 1) (.fn1 5 (.var 0))), (.fn3 5 (.un (.wrap .i64) (.bi .add (.un (.wrap .i64) (.bi .mul (.lit 2) (.var 0))) (.lit (-1)))) (.var 1) (.fn1 5 (.var 0))), (.fn3 6 (.un (.wrap .i64) (.bi .add (.un (.wrap .i64) (.bi .mul (.lit 2) (.var 0))) (.lit (-1)))) (.var 1) (.fn1 5 (.var 0))), (.fn3 1 (.un (.wrap .i64) (.bi .add (.un (.wrap .i64) (.bi .mul (.lit 2) (.var 0))) (.lit (-1)))) (.var 1) (.fn1 5 (.var 0))), (.fn3 0 (.un (.wrap .i64) (.bi .add (.un (.wrap .i64) (.bi .mul (.lit 2) (.var 0))) (.lit (-1)))) (.var 1) (.fn1 5 (.var 0)))])))]
set_option maxRecDepth 100000 in
theorem sMake : tmsMake.map (summaryF (cx [cStart, cFrom] []) 6000 0 tmsMake cMake.rt) = ssMake := by kernel_rfl

noncomputable def tmsRMake : List Tm := [entryTm Try.prog cRMake]
def ssRMake : List ST := [(.br (.un .not (.bi .eq (.fn1 6 (.var 0)) (.lit 0)))
   (.ret [(.lit 0), (.lit 0), (.lit 0), (.lit 0), (.lit 0), .nil, (.fn1 6 (.var 0))])
   (.need [(.bi .le (.un .len (.fn1 5 (.var 0))) (.lit 100))] (.ret [(.fn3 2 (.un (.wrap .i64) (.bi .add (.un (.wrap .i64) (.bi .mul (.lit 2) (.var 0))) (.lit (-1)))) (.var 1) (.fn1 5 (.var 0))), (.fn3 3 (.un (.wrap .i64) (.bi .add (.un (.wrap .i64) (.bi .mul (.lit 2) (.var 0))) (.lit (-1)))) (.var 1) (.fn1 5 (.var 0))), (.fn3 4 (.un (.wrap .i64) (.bi .add (.un (.wrap .i64) (.bi .mul (.lit 2) (.var 0))) (.lit (-1)))) (.var 1) (.fn1 5 (.var 0))), (.fn3 5 (.un (.wrap .i64) (.bi .add (.un (.wrap .i64) (.bi .mul (.lit 2) (.var 0))) (.lit (-1)))) (.var 1) (.fn1 5 (.var 0))), (.fn3 6 (.un (.wrap .i64) (.bi .add (.un (.wrap .i64) (.bi .mul (.lit 2) (.var 0))) (.lit (-1)))) (.var 1) (.fn1 5 (.var 0))), (.fn3 1 (.un (.wrap .i64) (.bi .add (.un (.wrap .i64) (.bi .mul (.lit 2) (.var 0))) (.lit (-1)))) (.var 1) (.fn1 5 (.var 0))), (.fn3 0 (.un (.wrap .i64) (.bi .add (.un (.wrap .i64) (.bi .mul (.lit 2) (.var 0))) (.lit (-1)))) (.var 1) (.fn1 5 (.var 0)))])))]
set_option maxRecDepth 100000 in
theorem sRMake : tmsRMake.map (summaryF (cx [cRStart, cRFrom] []) 6000 0 tmsRMake cRMake.rt) = ssRMake := by kernel_rfl

noncomputable def tmsEq2 : List Tm := [entryTm Try.prog cEq2,
  ⟨⟨⟨25, tl 26 [(0, (.slice 0 2 (.lit 0) (.un .len (.var 0)) none)), (1, (.slice 1 2 (.lit 0) (.un .len (.var 1)) none)), (12, (.int .i64 (.un .len (.var 0)))), (13, (.int .i64 (.var 2)))], [.at [0, 0, 1, 0, 1, 1], .lp [0, 1, 0, 1, 1], .blk 0, .at [1, 1, 1]], [], none⟩, [], [(.rows true [(.int .i64), (.int .i64)] (.var 0)), (.rows true [(.int .i64), (.int .i64)] (.var 1))]⟩, 3, [(.bi .eq (.un .len (.var 0)) (.un .len (.var 1)))]⟩]
def ssEq2 : List ST := [(.br (.un .not (.bi .eq (.un .len (.var 0)) (.un .len (.var 1))))
   (.ret [(.bl false)])
   (.goto 1 [(.var 0), (.var 1), (.lit 0)])),
  (.br (.bi .lt (.var 2) (.un .len (.var 0)))
   (.need [(.bi .le (.lit 0) (.var 2)), (.bi .le (.lit 0) (.var 2)), (.bi .le (.lit 0) (.var 2)), (.bi .le (.lit 0) (.var 2))] (.br (.un .not (.bi .and (.bi .eq (.te .get (.var 0) (.var 2) (.lit 0)) (.te .get (.var 1) (.var 2) (.lit 0))) (.bi .eq (.te .get (.var 0) (.var 2) (.lit 1)) (.te .get (.var 1) (.var 2) (.lit 1)))))
    (.ret [(.bl false)])
    (.goto 1 [(.var 0), (.var 1), (.un (.wrap .i64) (.bi .add (.var 2) (.lit 1)))])))
   (.ret [(.bl true)]))]
set_option maxRecDepth 100000 in
theorem sEq2 : tmsEq2.map (summaryF (cx [] [25]) 6000 2 tmsEq2 cEq2.rt) = ssEq2 := by kernel_rfl

noncomputable def tmsRows : List Tm := [entryTm Try.prog cRows,
  ⟨⟨⟨27, tl 26 [(0, (.slice 0 5 (.lit 0) (.un .len (.var 0)) none)), (1, (.slice 1 5 (.lit 0) (.un .len (.var 1)) none)), (5, (.int .i64 (.var 2)))], [.at [0, 0, 1, 0, 1, 1], .lp [0, 1, 0, 1, 1], .blk 0, .at [1, 1, 1]], [], none⟩, [], [(.rows true [(.int .i64), (.int .i64), (.int .i64), (.int .i64), (.int .i64)] (.var 0)), (.rows true [(.int .i64), (.int .i64), (.int .i64), (.int .i64), (.int .i64)] (.var 1))]⟩, 3, [(.bi .eq (.un .len (.var 0)) (.un .len (.var 1)))]⟩]
def ssRows : List ST := [(.br (.un .not (.bi .eq (.un .len (.var 0)) (.un .len (.var 1))))
   (.ret [(.bl false)])
   (.goto 1 [(.var 0), (.var 1), (.lit 0)])),
  (.br (.bi .lt (.var 2) (.un .len (.var 0)))
   (.need [(.bi .le (.lit 0) (.var 2)), (.bi .le (.lit 0) (.var 2)), (.bi .le (.lit 0) (.var 2)), (.bi .le (.lit 0) (.var 2))] (.br (.un .not (.bi .and (.bi .eq (.te .get (.var 0) (.var 2) (.lit 0)) (.te .get (.var 1) (.var 2) (.lit 0))) (.bi .and (.bi .eq (.te .get (.var 0) (.var 2) (.lit 1)) (.te .get (.var 1) (.var 2) (.lit 1))) (.bi .and (.bi .eq (.te .get (.var 0) (.var 2) (.lit 2)) (.te .get (.var 1) (.var 2) (.lit 2))) (.bi .and (.bi .eq (.te .get (.var 0) (.var 2) (.lit 3)) (.te .get (.var 1) (.var 2) (.lit 3))) (.bi .eq (.te .get (.var 0) (.var 2) (.lit 4)) (.te .get (.var 1) (.var 2) (.lit 4))))))))
    (.ret [(.bl false)])
    (.goto 1 [(.var 0), (.var 1), (.un (.wrap .i64) (.bi .add (.var 2) (.lit 1)))])))
   (.ret [(.bl true)]))]
set_option maxRecDepth 100000 in
theorem sRows : tmsRows.map (summaryF (cx [] [27]) 6000 2 tmsRows cRows.rt) = ssRows := by kernel_rfl

noncomputable def tmsSame : List Tm := [entryTm Try.prog cSame]
def ssSame : List ST := [(.br (.bi .eq (.var 0) (.var 6))
   (.br (.bi .eq (.var 1) (.var 7))
    (.br (.bi .eq (.var 2) (.var 8))
     (.br (.bi .eq (.var 3) (.var 9))
      (.br (.bi .eq (.var 4) (.var 10))
       (.ret [(.fn2 10 (.var 5) (.var 11))])
       (.ret [(.bl false)]))
      (.ret [(.bl false)]))
     (.ret [(.bl false)]))
    (.ret [(.bl false)]))
   (.ret [(.bl false)]))]
set_option maxRecDepth 100000 in
theorem sSame : tmsSame.map (summaryF (cx [cRows] []) 6000 2 tmsSame cSame.rt) = ssSame := by kernel_rfl

end Go.Proofs.Ytohelfcinfpmaaa
