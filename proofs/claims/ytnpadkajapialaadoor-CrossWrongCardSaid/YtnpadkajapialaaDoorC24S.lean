/- Chapter 24: the summaries of its functions, as the kernel reckons them. -/
import Derived.Test.YtnpadkajapialaaDoorC24Defs
import Derived.Test.YtnpadkajapialaaDoorProg
namespace Go.Proofs.YtnpadkajapialaaDoor
open Go Go.Sx Go.Proofs.C24

noncomputable def cx (ctrs : List Ctr) (fs : List Nat) : Ctx := { P := Tryd.prog, gl := [(0, 0)], ng := 1, ctrs, heads := fs.flatMap fun f => (loopPaths (bodyOf Tryd.prog f) []).map fun p => (f, p) }

theorem glIn (ctrs : List Ctr) (fs : List Nat) : GlIn (cx ctrs fs).gl (cx ctrs fs).ng := by
  intro g h hh
  simp only [cx, List.mem_singleton, Prod.mk.injEq] at hh
  show h < 1
  omega

theorem re {I : Itp} {c : Ctr} {ctrs ctrs' : List Ctr} {fs fs' : List Nat} (h : c.Valid (cx ctrs fs) I) : c.Valid (cx ctrs' fs') I := ⟨h.has, h.wf, h.run⟩

/-- contracts, all of them valid -/
inductive AllV : List Ctr → Prop where
  | nil : AllV []
  | cons {c : Ctr} {cs : List Ctr} : c.Valid (cx [] []) I24 → AllV cs → AllV (c :: cs)
theorem allOf {cs : List Ctr} {fs : List Nat} (h : AllV cs) : ∀ c ∈ (cx cs fs).ctrs, c.Valid (cx cs fs) I24 := by
  have : ∀ c ∈ cs, c.Valid (cx [] []) I24 := by
    induction h with
    | nil => intro c hc; cases hc
    | cons h1 _ ih =>
      intro c hc
      rcases List.mem_cons.1 hc with rfl | hc
      · exact h1
      · exact ih c hc
  exact fun c hc => re (this c hc)

/-- a contract's run, looked at value by value -/
theorem runs_of {I : Itp} {pres : List (List E)} {sums : List ST} {k j : Nat} {ρ out : List U} (h : decide (goN I pres sums k j ρ = some out) = true) : Runs I pres sums j ρ out := ⟨k, of_decide_eq_true h⟩

theorem w64 {x : Int} (h1 : -9223372036854775808 ≤ x) (h2 : x ≤ 9223372036854775807) : IntKind.wrap .i64 x = x := wrap_fit (by simpa [IntKind.min, IntKind.signed, IntKind.bits] using h1) (by simpa [IntKind.max, IntKind.signed, IntKind.bits] using h2)

section
variable {I : Itp} {ρ : List U} {G : Nat → List U → Prop} {Fin : List U → Prop}
theorem br_f {c : E} {a b : ST} (h : (c.den I ρ).b = false) (hb : StOk I ρ G Fin b) : StOk I ρ G Fin (.br c a b) := ⟨fun e => (by rw [h] at e; cases e), fun _ => hb⟩
theorem br_t {c : E} {a b : ST} (h : (c.den I ρ).b = true) (ha : StOk I ρ G Fin a) : StOk I ρ G Fin (.br c a b) := ⟨fun _ => ha, fun e => (by rw [h] at e; cases e)⟩
theorem ne_ed {ns : List E} {t : ST} (h : Holds I ρ ns) (ht : StOk I ρ G Fin t) : StOk I ρ G Fin (.need ns t) := ⟨h, fun _ => ht⟩
end

noncomputable def tmsImp : List Tm := [entryTm Tryd.prog cImp,
  ⟨⟨⟨19, tl 25 [(0, (.int .i64 (.var 0))), (3, (.int .i64 (.var 1))), (6, (.agg [(.int .i64 (.lit 20)), (.int .i64 (.lit 50)), (.int .i64 (.lit 90)), (.int .i64 (.lit 130)), (.int .i64 (.lit 170)), (.int .i64 (.lit 220)), (.int .i64 (.lit 270)), (.int .i64 (.lit 320)), (.int .i64 (.lit 370)), (.int .i64 (.lit 430)), (.int .i64 (.lit 500)), (.int .i64 (.lit 600)), (.int .i64 (.lit 750)), (.int .i64 (.lit 900)), (.int .i64 (.lit 1100)), (.int .i64 (.lit 1300)), (.int .i64 (.lit 1500)), (.int .i64 (.lit 1750)), (.int .i64 (.lit 2000)), (.int .i64 (.lit 2250)), (.int .i64 (.lit 2500)), (.int .i64 (.lit 3000)), (.int .i64 (.lit 3500)), (.int .i64 (.lit 4000))])), (7, (.int .i64 (.var 2)))], [.at [0, 0, 1, 0, 1, 1], .lp [0, 1, 0, 1, 1], .blk 0, .at [1, 1, 1]], [], none⟩, [], [(.rows true [(.int .i64)] GA)]⟩, 3, [(.bi .le (.lit (-24)) (.var 1)), (.bi .le (.var 1) (.lit 24)), (.bi .le (.lit 0) (.var 2)), (.bi .le (.var 2) (.lit 24))]⟩]
def ssImp : List ST := [(.goto 1 [(.var 0), (.lit 0), (.lit 0)]),
  (.br (.bi .lt (.var 2) (.lit 24))
   (.br (.bi .le (.un (.tab scaleL) (.var 2)) (.var 0))
    (.goto 1 [(.var 0), (.bi .add (.var 1) (.lit 1)), (.bi .add (.var 2) (.lit 1))])
    (.br (.bi .le (.var 0) (.bi .sub (.lit 0) (.un (.tab scaleL) (.var 2))))
     (.goto 1 [(.var 0), (.bi .add (.var 1) (.lit (-1))), (.bi .add (.var 2) (.lit 1))])
     (.goto 1 [(.var 0), (.var 1), (.bi .add (.var 2) (.lit 1))])))
   (.ret [(.var 1)]))]
set_option maxRecDepth 100000 in
theorem sImp : tmsImp.map (summaryF (cx [] [19]) 6000 1 tmsImp cImp.rt) = ssImp := by kernel_rfl

noncomputable def tmsGcd : List Tm := [entryTm Tryd.prog cGcd,
  ⟨⟨⟨54, tl 12 [(0, (.int .u64 (.var 0))), (1, (.int .u64 (.var 1)))], [.at [0, 0, 0, 1], .lp [0, 0, 1], .blk 0, .at [1, 1]], [], none⟩, [], [.dead]⟩, 2, [(.bi .le (.lit 0) (.var 0)), (.bi .le (.lit 0) (.var 1)), (.bi .le (.var 0) (.lit 1000000000000)), (.bi .le (.var 1) (.lit 1000000000000))]⟩]
def ssGcd : List ST := [(.goto 1 [(.var 0), (.var 1)]),
  (.br (.bi .lt (.lit 0) (.var 1))
   (.goto 1 [(.var 1), (.bi .rem (.var 0) (.var 1))])
   (.ret [(.var 0)]))]
set_option maxRecDepth 100000 in
theorem sGcd : tmsGcd.map (summaryF (cx [] [54]) 6000 1 tmsGcd cGcd.rt) = ssGcd := by kernel_rfl

noncomputable def tmsFit : List Tm := [entryTm Tryd.prog cFit]
def ssFit : List ST := [(.br (.var 0)
   (.ret [(.un (.wrap .i64) (.un (.wrap .u64) (.bi .sub (.lit 0) (.var 1)))), (.var 2)])
   (.ret [(.var 1), (.var 2)]))]
set_option maxRecDepth 100000 in
theorem sFit : tmsFit.map (summaryF (cx [] []) 6000 1 tmsFit cFit.rt) = ssFit := by kernel_rfl

noncomputable def tmsFMake : List Tm := [entryTm Tryd.prog cFMake]
def ssFMake : List ST := [(.br (.bi .lt (.var 0) (.lit 0))
   (.need [(.bi .le (.un (.wrap .u64) (.bi .sub (.lit 0) (.un (.wrap .u64) (.var 0)))) (.lit 1000000000000))] (.need [(.un .not (.bi .eq (.fn2 2 (.un (.wrap .u64) (.bi .sub (.lit 0) (.un (.wrap .u64) (.var 0)))) (.var 1)) (.lit 0))), (.un .not (.bi .eq (.fn2 2 (.un (.wrap .u64) (.bi .sub (.lit 0) (.un (.wrap .u64) (.var 0)))) (.var 1)) (.lit 0))), (.bi .le (.un (.wrap .u64) (.bi .quo (.un (.wrap .u64) (.bi .sub (.lit 0) (.un (.wrap .u64) (.var 0)))) (.fn2 2 (.un (.wrap .u64) (.bi .sub (.lit 0) (.un (.wrap .u64) (.var 0)))) (.var 1)))) (.lit 1000000000000)), (.bi .le (.lit 1) (.un (.wrap .u64) (.bi .quo (.var 1) (.fn2 2 (.un (.wrap .u64) (.bi .sub (.lit 0) (.un (.wrap .u64) (.var 0)))) (.var 1))))), (.bi .le (.un (.wrap .u64) (.bi .quo (.var 1) (.fn2 2 (.un (.wrap .u64) (.bi .sub (.lit 0) (.un (.wrap .u64) (.var 0)))) (.var 1)))) (.lit 1000000000000))] (.ret [(.te .ite (.bl true) (.bi .sub (.lit 0) (.un (.wrap .u64) (.bi .quo (.un (.wrap .u64) (.bi .sub (.lit 0) (.un (.wrap .u64) (.var 0)))) (.fn2 2 (.un (.wrap .u64) (.bi .sub (.lit 0) (.un (.wrap .u64) (.var 0)))) (.var 1))))) (.un (.wrap .u64) (.bi .quo (.un (.wrap .u64) (.bi .sub (.lit 0) (.un (.wrap .u64) (.var 0)))) (.fn2 2 (.un (.wrap .u64) (.bi .sub (.lit 0) (.un (.wrap .u64) (.var 0)))) (.var 1))))), (.un (.wrap .u64) (.bi .quo (.var 1) (.fn2 2 (.un (.wrap .u64) (.bi .sub (.lit 0) (.un (.wrap .u64) (.var 0)))) (.var 1))))])))
   (.br (.un .not (.bi .eq (.var 0) (.lit 0)))
    (.need [(.un .not (.bi .eq (.fn2 2 (.var 0) (.var 1)) (.lit 0))), (.un .not (.bi .eq (.fn2 2 (.var 0) (.var 1)) (.lit 0))), (.bi .le (.un (.wrap .u64) (.bi .quo (.var 0) (.fn2 2 (.var 0) (.var 1)))) (.lit 1000000000000)), (.bi .le (.lit 1) (.un (.wrap .u64) (.bi .quo (.var 1) (.fn2 2 (.var 0) (.var 1))))), (.bi .le (.un (.wrap .u64) (.bi .quo (.var 1) (.fn2 2 (.var 0) (.var 1)))) (.lit 1000000000000))] (.ret [(.te .ite (.bl false) (.bi .sub (.lit 0) (.un (.wrap .u64) (.bi .quo (.var 0) (.fn2 2 (.var 0) (.var 1))))) (.un (.wrap .u64) (.bi .quo (.var 0) (.fn2 2 (.var 0) (.var 1))))), (.un (.wrap .u64) (.bi .quo (.var 1) (.fn2 2 (.var 0) (.var 1))))]))
    (.need [(.un .not (.bi .eq (.fn2 2 (.var 0) (.var 1)) (.lit 0))), (.un .not (.bi .eq (.fn2 2 (.var 0) (.var 1)) (.lit 0))), (.bi .le (.un (.wrap .u64) (.bi .quo (.var 0) (.fn2 2 (.var 0) (.var 1)))) (.lit 1000000000000)), (.bi .le (.lit 1) (.un (.wrap .u64) (.bi .quo (.var 1) (.fn2 2 (.var 0) (.var 1))))), (.bi .le (.un (.wrap .u64) (.bi .quo (.var 1) (.fn2 2 (.var 0) (.var 1)))) (.lit 1000000000000))] (.ret [(.te .ite (.bl false) (.bi .sub (.lit 0) (.un (.wrap .u64) (.bi .quo (.var 0) (.fn2 2 (.var 0) (.var 1))))) (.un (.wrap .u64) (.bi .quo (.var 0) (.fn2 2 (.var 0) (.var 1))))), (.un (.wrap .u64) (.bi .quo (.var 1) (.fn2 2 (.var 0) (.var 1))))]))))]
set_option maxRecDepth 100000 in
theorem sFMake : tmsFMake.map (summaryF (cx [cGcd, cFit] []) 6000 1 tmsFMake cFMake.rt) = ssFMake := by kernel_rfl

noncomputable def tmsRight : List Tm := [entryTm Tryd.prog cRight,
  ⟨⟨⟨61, tl 19 [(0, (.slice 1 1 (.lit 0) (.un .len (.var 0)) none)), (1, (.func 50 [])), (7, (.int .i64 (.un .len (.var 0)))), (8, (.int .i64 (.var 1)))], [.at [0, 0, 1, 0, 1], .lp [0, 1, 0, 1], .blk 0, .at [1, 1]], [], none⟩, [⟨49, tl 9 [(0, (.slice 1 1 (.lit 0) (.un .len (.var 0)) none)), (1, (.func 50 [])), (4, (.bool (.bl false))), (5, (.slice 1 1 (.lit 0) (.un .len (.var 0)) none)), (6, (.func 50 []))], [.reg [0, 1] 2, .at [1, 1]], [], none⟩, ⟨28, tl 10 [(0, (.slice 1 1 (.lit 0) (.un .len (.var 0)) none)), (2, (.int .i64 (.lit 0))), (3, (.bool (.bi .lt (.lit 24) (.un .len (.var 0))))), (4, (.slice 1 1 (.lit 0) (.un .len (.var 0)) none)), (5, (.int .i64 (.un .len (.var 0)))), (6, (.bool (.bi .lt (.lit 24) (.un .len (.var 0))))), (8, (.slice 1 1 (.lit 0) (.un .len (.var 0)) none))], [.reg [0, 1, 1, 0, 0, 1] 1, .at [1, 1, 1, 0, 0, 1], .blk 0, .at [1, 1]], [], none⟩], [.dead, (.rows true [(.int .i64)] (.var 0))]⟩, 2, [(.bi .le (.lit 0) (.var 1)), (.bi .le (.var 1) (.un .len (.var 0))), (.bi .le (.un .len (.var 0)) (.lit 24))]⟩]
def ssRight : List ST := [(.br (.bi .lt (.lit 24) (.un .len (.var 0)))
   (.ret [(.lit 5)])
   (.goto 1 [(.var 0), (.lit 0)])),
  (.br (.bi .lt (.var 1) (.un .len (.var 0)))
   (.br (.bi .lt (.te .get (.var 0) (.var 1) (.lit 0)) (.lit (-7600)))
    (.ret [(.lit 240)])
    (.br (.bi .lt (.lit 7600) (.te .get (.var 0) (.var 1) (.lit 0)))
     (.ret [(.lit 240)])
     (.goto 1 [(.var 0), (.bi .add (.var 1) (.lit 1))])))
   (.ret [(.lit 0)]))]
set_option maxRecDepth 100000 in
theorem sRight : tmsRight.map (summaryF (cx [] [61]) 6000 2 tmsRight cRight.rt) = ssRight := by kernel_rfl

noncomputable def tmsCross : List Tm := [entryTm Tryd.prog cCross,
  ⟨⟨⟨29, tl 22 [(1, (.func 30 [(.ptr 2 (.lit 0) (.lit 0))])), (5, (.slice 3 2 (.lit 0) (.un .len (.var 1)) none)), (8, (.slice 1 1 (.lit 0) (.un .len (.var 0)) none)), (9, (.int .i64 (.un .len (.var 0)))), (10, (.int .i64 (.var 2)))], [.at [0, 0, 1, 0, 1, 1], .lp [0, 1, 0, 1, 1], .blk 0, .at [1, 1, 1]], [], none⟩, [⟨13, tl 13 [(0, (.slice 1 1 (.lit 0) (.un .len (.var 0)) none)), (1, (.ptr 2 (.lit 0) (.lit 0))), (2, .nils), (3, (.int .i64 (.lit 0))), (4, (.int .i64 (.fn1 1 (.var 0)))), (5, (.slice 1 1 (.lit 0) (.un .len (.var 0)) none)), (6, (.int .i64 (.fn1 1 (.var 0)))), (7, (.int .i64 (.fn1 1 (.var 0)))), (8, (.bool (.un .not (.bi .eq (.fn1 1 (.var 0)) (.lit 0))))), (10, (.slice 1 1 (.lit 0) (.un .len (.var 0)) none)), (11, (.func 30 [(.ptr 2 (.lit 0) (.lit 0))]))], [.reg [0, 1, 1] 2, .at [1, 1, 1]], [], none⟩], [(.rows true [(.int .i64)] GA), (.rows true [(.int .i64)] (.var 0)), (.cells false [(.slice 1 1 (.lit 0) (.un .len (.var 0)) none)]), (.rows false [(.int .i64), (.int .i64)] (.var 1))]⟩, 3, [(.bi .le (.var 2) (.un .len (.var 0))), (.bi .eq (.un .len (.var 1)) (.var 2)), (.bi .eq (.fn1 1 (.var 0)) (.lit 0)), (.bi .le (.un .len (.var 0)) (.lit 100000))]⟩,
  ⟨⟨⟨30, tl 26 [(0, (.int .i64 (.var 3))), (1, (.ptr 2 (.lit 0) (.lit 0))), (3, (.ptr 3 (.lit 0) (.lit 0))), (4, (.int .i64 (.var 1))), (7, (.slice 1 1 (.lit 0) (.un .len (.var 0)) none)), (8, (.int .i64 (.un .len (.var 0)))), (9, (.int .i64 (.var 2)))], [.at [0, 0, 1, 0, 1, 1], .lp [0, 1, 0, 1, 1], .blk 0, .at [1, 1, 1]], [], none⟩, [⟨29, tl 22 [(1, (.func 30 [(.ptr 2 (.lit 0) (.lit 0))])), (5, (.slice 4 2 (.lit 0) (.un .len (.var 4)) none)), (7, (.int .i64 (.var 3))), (8, (.slice 1 1 (.lit 0) (.un .len (.var 0)) none)), (9, (.int .i64 (.un .len (.var 0)))), (10, (.int .i64 (.var 5))), (11, (.bool (.bi .lt (.lit 0) (.un .len (.var 0))))), (12, (.ptr 1 (.var 5) (.lit 0))), (13, (.int .i64 (.var 3))), (14, (.slice 4 2 (.lit 0) (.un .len (.var 4)) none)), (15, (.func 30 [(.ptr 2 (.lit 0) (.lit 0))])), (16, (.int .i64 (.var 3)))], [.reg [1, 0, 0, 1, 1, 0, 0, 1, 0, 1, 1] 3, .blk 1, .at [1, 1, 1, 0, 0, 1, 0, 1, 1], .lp [0, 1, 0, 1, 1], .blk 0, .at [1, 1, 1]], [], none⟩, ⟨13, tl 13 [(0, (.slice 1 1 (.lit 0) (.un .len (.var 0)) none)), (1, (.ptr 2 (.lit 0) (.lit 0))), (2, .nils), (3, (.int .i64 (.lit 0))), (4, (.int .i64 (.fn1 1 (.var 0)))), (5, (.slice 1 1 (.lit 0) (.un .len (.var 0)) none)), (6, (.int .i64 (.fn1 1 (.var 0)))), (7, (.int .i64 (.fn1 1 (.var 0)))), (8, (.bool (.un .not (.bi .eq (.fn1 1 (.var 0)) (.lit 0))))), (10, (.slice 1 1 (.lit 0) (.un .len (.var 0)) none)), (11, (.func 30 [(.ptr 2 (.lit 0) (.lit 0))]))], [.reg [0, 1, 1] 2, .at [1, 1, 1]], [], none⟩], [(.rows true [(.int .i64)] GA), (.rows true [(.int .i64)] (.var 0)), (.cells false [(.slice 1 1 (.lit 0) (.un .len (.var 0)) none)]), (.cells false [(.int .i64 (.lit 0)), (.int .i64 (.lit 0))]), (.rows false [(.int .i64), (.int .i64)] (.var 4))]⟩, 6, [(.bi .le (.lit 0) (.var 2)), (.bi .le (.var 2) (.un .len (.var 0))), (.bi .eq (.un .len (.var 4)) (.var 5)), (.bi .lt (.var 5) (.un .len (.var 0))), (.bi .eq (.fn1 1 (.var 0)) (.lit 0)), (.bi .le (.un .len (.var 0)) (.lit 100000))]⟩]
def ssCross : List ST := [(.br (.un .not (.bi .eq (.fn1 1 (.var 0)) (.lit 0)))
   (.ret [.nil, (.fn1 1 (.var 0))])
   (.goto 1 [(.var 0), .nil, (.lit 0)])),
  (.br (.bi .lt (.var 2) (.un .len (.var 0)))
   (.goto 2 [(.var 0), (.lit 0), (.lit 0), (.te .get (.var 0) (.var 2) (.lit 0)), (.var 1), (.var 2)])
   (.ret [(.var 1), (.lit 0)])),
  (.br (.bi .lt (.var 2) (.un .len (.var 0)))
   (.goto 2 [(.var 0), (.un (.wrap .i64) (.bi .add (.var 1) (.fn1 0 (.un (.wrap .i64) (.bi .sub (.var 3) (.te .get (.var 0) (.var 2) (.lit 0))))))), (.bi .add (.var 2) (.lit 1)), (.var 3), (.var 4), (.var 5)])
   (.need [(.bi .le (.lit (-1000000000)) (.var 1)), (.bi .le (.var 1) (.lit 1000000000))] (.goto 1 [(.var 0), (.bi .snoc (.var 4) (.bi .cons (.fn2 0 (.var 1) (.bi .max (.bi .add (.un .len (.var 0)) (.lit (-1))) (.lit 1))) (.bi .cons (.fn2 1 (.var 1) (.bi .max (.bi .add (.un .len (.var 0)) (.lit (-1))) (.lit 1))) .nil))), (.bi .add (.var 5) (.lit 1))])))]
set_option maxRecDepth 100000 in
theorem sCross : tmsCross.map (summaryF (cx [cRight, cImp, cFMake] [29, 30]) 6000 2 tmsCross cCross.rt) = ssCross := by kernel_rfl

noncomputable def tmsPlain : List Tm := [entryTm Tryd.prog cPlain,
  ⟨⟨⟨14, tl 26 [(1, (.ptr 2 (.lit 0) (.lit 0))), (5, (.ptr 3 (.lit 0) (.lit 0))), (13, (.slice 1 1 (.lit 0) (.un .len (.var 0)) none)), (14, (.int .i64 (.un .len (.var 0)))), (15, (.int .i64 (.var 2)))], [.at [0, 0, 1, 0, 1, 1, 1], .lp [0, 1, 0, 1, 1, 1], .blk 0, .at [1, 1, 1, 1]], [], none⟩, [], [.dead, (.rows true [(.int .i64)] (.var 0)), (.cells false [(.slice 1 1 (.lit 0) (.un .len (.var 0)) none)]), (.cells false [(.int .i64 (.var 1))])]⟩, 3, [(.bi .le (.lit 0) (.var 2)), (.bi .le (.var 2) (.un .len (.var 0))), (.bi .eq (.fn1 1 (.var 0)) (.lit 0)), (.bi .le (.un .len (.var 0)) (.lit 100000))]⟩,
  ⟨⟨⟨29, tl 22 [(1, (.func 32 [(.ptr 2 (.lit 0) (.lit 0)), (.ptr 3 (.lit 0) (.lit 0))])), (5, (.slice 4 2 (.lit 0) (.un .len (.var 1)) none)), (8, (.slice 1 1 (.lit 0) (.un .len (.var 0)) none)), (9, (.int .i64 (.un .len (.var 0)))), (10, (.int .i64 (.var 2)))], [.at [0, 0, 1, 0, 1, 1], .lp [0, 1, 0, 1, 1], .blk 0, .at [1, 1, 1]], [], none⟩, [⟨14, tl 26 [(1, (.ptr 2 (.lit 0) (.lit 0))), (5, (.ptr 3 (.lit 0) (.lit 0))), (13, (.slice 1 1 (.lit 0) (.un .len (.var 0)) none)), (14, (.int .i64 (.un .len (.var 0)))), (15, (.int .i64 (.var 4))), (16, (.bool (.var 5))), (23, (.slice 1 1 (.lit 0) (.un .len (.var 0)) none)), (24, (.func 32 [(.ptr 2 (.lit 0) (.lit 0)), (.ptr 3 (.lit 0) (.lit 0))]))], [.reg [0, 1, 1, 1, 1] 2, .at [1, 1, 1, 1, 1]], [], none⟩], [.dead, (.rows true [(.int .i64)] (.var 0)), (.cells false [(.slice 1 1 (.lit 0) (.un .len (.var 0)) none)]), (.cells false [(.int .i64 (.var 3))]), (.rows false [(.int .i64), (.int .i64)] (.var 1))]⟩, 6, [(.bi .le (.var 2) (.un .len (.var 0))), (.bi .eq (.un .len (.var 1)) (.var 2)), (.bi .eq (.un .len (.var 0)) (.var 4)), (.bi .eq (.fn1 1 (.var 0)) (.lit 0)), (.bi .le (.un .len (.var 0)) (.lit 100000))]⟩]
def ssPlain : List ST := [(.br (.un .not (.bi .eq (.fn1 1 (.var 0)) (.lit 0)))
   (.ret [.nil, (.fn1 1 (.var 0))])
   (.goto 1 [(.var 0), (.lit 0), (.lit 0)])),
  (.br (.bi .lt (.var 2) (.un .len (.var 0)))
   (.goto 1 [(.var 0), (.un (.wrap .i64) (.bi .add (.var 1) (.te .get (.var 0) (.var 2) (.lit 0)))), (.bi .add (.var 2) (.lit 1))])
   (.goto 2 [(.var 0), .nil, (.lit 0), (.var 1), (.var 2), (.bi .lt (.var 2) (.un .len (.var 0)))])),
  (.br (.bi .lt (.var 2) (.un .len (.var 0)))
   (.need [(.bi .le (.lit (-1000000000)) (.un (.wrap .i64) (.bi .sub (.un (.wrap .i64) (.bi .mul (.te .get (.var 0) (.var 2) (.lit 0)) (.un .len (.var 0)))) (.var 3)))), (.bi .le (.un (.wrap .i64) (.bi .sub (.un (.wrap .i64) (.bi .mul (.te .get (.var 0) (.var 2) (.lit 0)) (.un .len (.var 0)))) (.var 3))) (.lit 1000000000))] (.goto 2 [(.var 0), (.bi .snoc (.var 1) (.bi .cons (.fn2 0 (.un (.wrap .i64) (.bi .sub (.un (.wrap .i64) (.bi .mul (.te .get (.var 0) (.var 2) (.lit 0)) (.un .len (.var 0)))) (.var 3))) (.un .len (.var 0))) (.bi .cons (.fn2 1 (.un (.wrap .i64) (.bi .sub (.un (.wrap .i64) (.bi .mul (.te .get (.var 0) (.var 2) (.lit 0)) (.un .len (.var 0)))) (.var 3))) (.un .len (.var 0))) .nil))), (.bi .add (.var 2) (.lit 1)), (.var 3), (.var 4), (.var 5)]))
   (.ret [(.var 1), (.lit 0)]))]
set_option maxRecDepth 100000 in
theorem sPlain : tmsPlain.map (summaryF (cx [cRight, cFMake] [14, 29]) 6000 2 tmsPlain cPlain.rt) = ssPlain := by kernel_rfl

noncomputable def tmsDatum : List Tm := [entryTm Tryd.prog cDatum,
  ⟨⟨⟨65, tl 16 [(0, (.yld 2)), (5, (.slice 1 1 (.lit 0) (.un .len (.var 0)) none)), (6, (.int .i64 (.un .len (.var 0)))), (7, (.int .i64 (.var 3)))], [.at [0, 0, 1], .lp [0, 1], .blk 0], [], none⟩, [⟨76, tl 13 [(0, .nils), (1, (.func 65 [(.ptr 4 (.lit 0) (.lit 0))])), (2, (.ptr 5 (.lit 0) (.lit 0))), (4, .nils), (6, (.func 65 [(.ptr 4 (.lit 0) (.lit 0))]))], [.rfn 2, .blk 0, .at [1, 1]], [3], none⟩, ⟨63, tl 5 [(0, (.func 65 [(.ptr 4 (.lit 0) (.lit 0))])), (2, .nils), (3, (.func 65 [(.ptr 4 (.lit 0) (.lit 0))]))], [.reg [0, 1] 1, .at [1, 1]], [], none⟩, ⟨52, tl 9 [(0, (.func 65 [(.ptr 4 (.lit 0) (.lit 0))])), (2, .nils), (4, (.func 65 [(.ptr 4 (.lit 0) (.lit 0))]))], [.reg [0, 1] 1, .at [1, 1]], [], none⟩, ⟨35, tl 62 [(0, (.slice 1 1 (.lit 0) (.un .len (.var 0)) none)), (1, (.int .i64 (.var 1))), (4, (.int .i64 (.lit 0))), (5, (.bool (.bl false))), (13, (.int .i64 (.var 1))), (14, (.bool (.bi .lt (.var 1) (.lit 0)))), (15, (.bool (.bi .lt (.var 1) (.lit 0)))), (16, (.int .i64 (.var 1))), (17, (.slice 1 1 (.lit 0) (.un .len (.var 0)) none)), (18, (.int .i64 (.un .len (.var 0)))), (19, (.int .i64 (.bi .add (.un .len (.var 0)) (.lit 1)))), (20, (.int .i64 (.bi .quo (.bi .add (.un .len (.var 0)) (.lit 1)) (.lit 2)))), (21, (.bool (.bi .le (.bi .quo (.bi .add (.un .len (.var 0)) (.lit 1)) (.lit 2)) (.var 1)))), (22, (.bool (.bi .le (.bi .quo (.bi .add (.un .len (.var 0)) (.lit 1)) (.lit 2)) (.var 1)))), (23, (.slice 1 1 (.lit 0) (.un .len (.var 0)) none)), (24, (.func 65 [(.ptr 4 (.lit 0) (.lit 0))]))], [.reg [0, 1, 1] 2, .at [1, 1, 1]], [], none⟩, ⟨16, tl 23 [(0, (.slice 1 1 (.lit 0) (.un .len (.var 0)) none)), (1, (.int .i64 (.var 1))), (4, (.int .i64 (.lit 0))), (5, (.int .i64 (.lit 0))), (6, (.int .i64 (.fn1 1 (.var 0)))), (9, (.slice 1 1 (.lit 0) (.un .len (.var 0)) none)), (10, (.int .i64 (.fn1 1 (.var 0)))), (11, (.int .i64 (.fn1 1 (.var 0)))), (12, (.bool (.un .not (.bi .eq (.fn1 1 (.var 0)) (.lit 0))))), (15, (.slice 1 1 (.lit 0) (.un .len (.var 0)) none)), (16, (.int .i64 (.var 1)))], [.reg [0, 1, 1] 2, .at [1, 1, 1]], [], none⟩], [(.rows true [(.int .i64)] GA), (.rows true [(.int .i64)] (.var 0)), (.loop ⟨76, tl 13 [(0, .nils), (1, (.func 65 [(.ptr 4 (.lit 0) (.lit 0))])), (2, (.ptr 5 (.lit 0) (.lit 0))), (3, (.tup [])), (4, .nils), (5, (.tup [])), (6, (.func 65 [(.ptr 4 (.lit 0) (.lit 0))])), (7, (.tup [])), (8, (.tup [])), (9, (.tup [])), (10, (.tup [])), (11, (.tup [])), (12, (.tup []))], [0, 1, 0, 1], .ready, none, 3⟩), .defd, (.cells false [(.slice 1 1 (.lit 0) (.un .len (.var 0)) none)]), (.cells false [(.slice 6 1 (.lit 0) (.un .len (.var 2)) none)]), (.rows false [(.int .i64)] (.var 2))]⟩, 4, [(.bi .le (.lit 0) (.var 1)), (.bi .le (.var 3) (.un .len (.var 0))), (.bi .eq (.un .len (.var 2)) (.var 3)), (.bi .lt (.var 1) (.bi .quo (.bi .add (.un .len (.var 0)) (.lit 1)) (.lit 2))), (.bi .eq (.fn1 1 (.var 0)) (.lit 0)), (.bi .le (.un .len (.var 0)) (.lit 100000))]⟩,
  ⟨⟨⟨35, tl 62 [(7, (.slice 2 1 (.var 1) (.bi .sub (.un (.wrap .i64) (.bi .sub (.un .len (.var 0)) (.var 1))) (.var 1)) none)), (8, (.int .i64 (.var 3))), (33, (.slice 2 1 (.var 1) (.bi .sub (.un (.wrap .i64) (.bi .sub (.un .len (.var 0)) (.var 1))) (.var 1)) none)), (34, (.int .i64 (.bi .sub (.un (.wrap .i64) (.bi .sub (.un .len (.var 0)) (.var 1))) (.var 1)))), (35, (.int .i64 (.var 4)))], [.at [0, 0, 1, 0, 1, 1, 1, 1, 1], .lp [0, 1, 0, 1, 1, 1, 1, 1], .blk 0, .at [1, 1, 1, 1, 1, 1]], [], none⟩, [⟨16, tl 23 [(0, (.slice 1 1 (.lit 0) (.un .len (.var 0)) none)), (1, (.int .i64 (.var 1))), (4, (.int .i64 (.lit 0))), (5, (.int .i64 (.lit 0))), (6, (.int .i64 (.fn1 1 (.var 0)))), (9, (.slice 1 1 (.lit 0) (.un .len (.var 0)) none)), (10, (.int .i64 (.fn1 1 (.var 0)))), (11, (.int .i64 (.fn1 1 (.var 0)))), (12, (.bool (.un .not (.bi .eq (.fn1 1 (.var 0)) (.lit 0))))), (15, (.slice 1 1 (.lit 0) (.un .len (.var 0)) none)), (16, (.int .i64 (.var 1)))], [.reg [0, 1, 1] 2, .at [1, 1, 1]], [], none⟩], [(.rows true [(.int .i64)] GA), (.rows true [(.int .i64)] (.var 0)), (.rows false [(.int .i64)] (.var 2))]⟩, 5, [(.bi .le (.lit 0) (.var 1)), (.bi .le (.lit 0) (.var 4)), (.bi .lt (.var 1) (.bi .quo (.bi .add (.un .len (.var 0)) (.lit 1)) (.lit 2))), (.bi .eq (.fn1 1 (.var 0)) (.lit 0)), (.bi .le (.un .len (.var 0)) (.lit 100000))]⟩]
def ssDatum : List ST := [(.br (.un .not (.bi .eq (.fn1 1 (.var 0)) (.lit 0)))
   (.ret [(.lit 0), (.fn1 1 (.var 0))])
   (.br (.bi .lt (.var 1) (.lit 0))
    (.ret [(.lit 0), (.lit 2)])
    (.br (.bi .le (.bi .quo (.bi .add (.un .len (.var 0)) (.lit 1)) (.lit 2)) (.var 1))
     (.ret [(.lit 0), (.lit 2)])
     (.goto 1 [(.var 0), (.var 1), .nil, (.lit 0)])))),
  (.br (.bi .lt (.var 3) (.un .len (.var 0)))
   (.goto 1 [(.var 0), (.var 1), (.bi .snoc (.var 2) (.bi .cons (.te .get (.var 0) (.var 3) (.lit 0)) .nil)), (.bi .add (.var 3) (.lit 1))])
   (.need [(.bi .le (.var 1) (.un (.wrap .i64) (.bi .sub (.un .len (.var 0)) (.var 1)))), (.bi .le (.un (.wrap .i64) (.bi .sub (.un .len (.var 0)) (.var 1))) (.un .len (.var 2)))] (.goto 2 [(.var 0), (.var 1), (.fn2 12 (.var 2) (.un .len (.var 2))), (.lit 0), (.lit 0)]))),
  (.br (.bi .lt (.var 4) (.bi .sub (.un (.wrap .i64) (.bi .sub (.un .len (.var 0)) (.var 1))) (.var 1)))
   (.need [(.bi .lt (.bi .add (.var 1) (.var 4)) (.un .len (.var 2)))] (.goto 2 [(.var 0), (.var 1), (.var 2), (.un (.wrap .i64) (.bi .add (.var 3) (.te .get (.var 2) (.bi .add (.var 1) (.var 4)) (.lit 0)))), (.bi .add (.var 4) (.lit 1))]))
   (.need [(.un .not (.bi .eq (.un (.wrap .i64) (.bi .mul (.lit 20) (.bi .sub (.un (.wrap .i64) (.bi .sub (.un .len (.var 0)) (.var 1))) (.var 1)))) (.lit 0)))] (.br (.bi .lt (.var 3) (.lit 0))
    (.ret [(.un (.wrap .i64) (.bi .mul (.lit 10) (.un (.wrap .i64) (.bi .sub (.lit 0) (.un (.wrap .i64) (.bi .quo (.un (.wrap .i64) (.bi .add (.un (.wrap .i64) (.bi .mul (.lit 2) (.bi .max (.var 3) (.un (.wrap .i64) (.bi .sub (.lit 0) (.var 3)))))) (.un (.wrap .i64) (.bi .mul (.lit 10) (.bi .sub (.un (.wrap .i64) (.bi .sub (.un .len (.var 0)) (.var 1))) (.var 1)))))) (.un (.wrap .i64) (.bi .mul (.lit 20) (.bi .sub (.un (.wrap .i64) (.bi .sub (.un .len (.var 0)) (.var 1))) (.var 1)))))))))), (.lit 0)])
    (.ret [(.un (.wrap .i64) (.bi .mul (.lit 10) (.un (.wrap .i64) (.bi .quo (.un (.wrap .i64) (.bi .add (.un (.wrap .i64) (.bi .mul (.lit 2) (.bi .max (.var 3) (.un (.wrap .i64) (.bi .sub (.lit 0) (.var 3)))))) (.un (.wrap .i64) (.bi .mul (.lit 10) (.bi .sub (.un (.wrap .i64) (.bi .sub (.un .len (.var 0)) (.var 1))) (.var 1)))))) (.un (.wrap .i64) (.bi .mul (.lit 20) (.bi .sub (.un (.wrap .i64) (.bi .sub (.un .len (.var 0)) (.var 1))) (.var 1)))))))), (.lit 0)]))))]
set_option maxRecDepth 100000 in
theorem sDatum : tmsDatum.map (summaryF (cx [cRight, cSort1] [35, 65, 76]) 6000 2 tmsDatum cDatum.rt) = ssDatum := by kernel_rfl

noncomputable def tmsButler : List Tm := [entryTm Tryd.prog cButler,
  ⟨⟨⟨33, tl 22 [(1, (.func 34 [(.ptr 2 (.lit 0) (.lit 0))])), (5, (.slice 3 1 (.lit 0) (.un .len (.var 3)) none)), (8, (.slice 1 1 (.lit 0) (.un .len (.var 0)) none)), (9, (.int .i64 (.un .len (.var 0)))), (10, (.int .i64 (.var 4)))], [.at [0, 0, 1, 0, 1, 1], .lp [0, 1, 0, 1, 1], .blk 0, .at [1, 1, 1]], [], none⟩, [⟨15, tl 20 [(0, (.slice 1 1 (.lit 0) (.un .len (.var 0)) none)), (1, (.int .i64 (.var 1))), (4, .nils), (5, (.int .i64 (.lit 0))), (6, (.ptr 2 (.lit 0) (.lit 0))), (7, (.int .i64 (.fn2 4 (.var 0) (.var 1)))), (8, (.tup [(.int .i64 (.fn2 3 (.var 0) (.var 1))), (.int .i64 (.fn2 4 (.var 0) (.var 1)))])), (9, (.slice 1 1 (.lit 0) (.un .len (.var 0)) none)), (10, (.int .i64 (.var 1))), (11, (.tup [(.int .i64 (.fn2 3 (.var 0) (.var 1))), (.int .i64 (.fn2 4 (.var 0) (.var 1)))])), (12, (.int .i64 (.fn2 3 (.var 0) (.var 1)))), (13, (.int .i64 (.fn2 4 (.var 0) (.var 1)))), (14, (.int .i64 (.fn2 4 (.var 0) (.var 1)))), (15, (.bool (.un .not (.bi .eq (.fn2 4 (.var 0) (.var 1)) (.lit 0))))), (17, (.slice 1 1 (.lit 0) (.un .len (.var 0)) none)), (18, (.func 34 [(.ptr 2 (.lit 0) (.lit 0))]))], [.reg [0, 1, 1, 1] 2, .at [1, 1, 1, 1]], [], none⟩], [(.rows true [(.int .i64)] GA), (.rows true [(.int .i64)] (.var 0)), (.cells false [(.int .i64 (.var 2))]), (.rows false [(.int .i64)] (.var 3))]⟩, 5, [(.bi .le (.var 4) (.un .len (.var 0))), (.bi .eq (.un .len (.var 3)) (.var 4)), (.bi .eq (.fn2 4 (.var 0) (.var 1)) (.lit 0)), (.bi .le (.un .len (.var 0)) (.lit 100000))]⟩]
def ssButler : List ST := [(.br (.un .not (.bi .eq (.fn2 4 (.var 0) (.var 1)) (.lit 0)))
   (.ret [.nil, (.fn2 4 (.var 0) (.var 1))])
   (.goto 1 [(.var 0), (.var 1), (.fn2 3 (.var 0) (.var 1)), .nil, (.lit 0)])),
  (.br (.bi .lt (.var 4) (.un .len (.var 0)))
   (.goto 1 [(.var 0), (.var 1), (.var 2), (.bi .snoc (.var 3) (.bi .cons (.fn1 0 (.un (.wrap .i64) (.bi .sub (.te .get (.var 0) (.var 4) (.lit 0)) (.var 2)))) .nil)), (.bi .add (.var 4) (.lit 1))])
   (.ret [(.var 3), (.lit 0)]))]
set_option maxRecDepth 100000 in
theorem sButler : tmsButler.map (summaryF (cx [cDatum, cImp] [33]) 6000 2 tmsButler cButler.rt) = ssButler := by kernel_rfl

noncomputable def tmsEqI : List Tm := [entryTm Tryd.prog cEqI,
  ⟨⟨⟨26, tl 26 [(0, (.slice 1 1 (.lit 0) (.un .len (.var 0)) none)), (1, (.slice 2 1 (.lit 0) (.un .len (.var 1)) none)), (5, (.int .i64 (.var 2)))], [.at [0, 0, 1, 0, 1, 1], .lp [0, 1, 0, 1, 1], .blk 0, .at [1, 1, 1]], [], none⟩, [], [.dead, (.rows true [(.int .i64)] (.var 0)), (.rows true [(.int .i64)] (.var 1))]⟩, 3, [(.bi .le (.lit 0) (.var 2)), (.bi .le (.var 2) (.un .len (.var 0))), (.bi .eq (.un .len (.var 0)) (.un .len (.var 1))), (.bi .le (.un .len (.var 0)) (.lit 100000))]⟩]
def ssEqI : List ST := [(.br (.un .not (.bi .eq (.un .len (.var 0)) (.un .len (.var 1))))
   (.ret [(.bl false)])
   (.goto 1 [(.var 0), (.var 1), (.lit 0)])),
  (.br (.bi .lt (.var 2) (.un .len (.var 0)))
   (.br (.un .not (.bi .eq (.te .get (.var 0) (.var 2) (.lit 0)) (.te .get (.var 1) (.var 2) (.lit 0))))
    (.ret [(.bl false)])
    (.goto 1 [(.var 0), (.var 1), (.bi .add (.var 2) (.lit 1))]))
   (.ret [(.bl true)]))]
set_option maxRecDepth 100000 in
theorem sEqI : tmsEqI.map (summaryF (cx [] [26]) 6000 3 tmsEqI cEqI.rt) = ssEqI := by kernel_rfl

noncomputable def tmsEqF : List Tm := [entryTm Tryd.prog cEqF,
  ⟨⟨⟨23, tl 26 [(0, (.slice 1 2 (.lit 0) (.un .len (.var 0)) none)), (1, (.slice 2 2 (.lit 0) (.un .len (.var 1)) none)), (5, (.int .i64 (.var 2)))], [.at [0, 0, 1, 0, 1, 1], .lp [0, 1, 0, 1, 1], .blk 0, .at [1, 1, 1]], [], none⟩, [], [.dead, (.rows true [(.int .i64), (.int .i64)] (.var 0)), (.rows true [(.int .i64), (.int .i64)] (.var 1))]⟩, 3, [(.bi .le (.lit 0) (.var 2)), (.bi .le (.var 2) (.un .len (.var 0))), (.bi .eq (.un .len (.var 0)) (.un .len (.var 1))), (.bi .le (.un .len (.var 0)) (.lit 100000))]⟩]
def ssEqF : List ST := [(.br (.un .not (.bi .eq (.un .len (.var 0)) (.un .len (.var 1))))
   (.ret [(.bl false)])
   (.goto 1 [(.var 0), (.var 1), (.lit 0)])),
  (.br (.bi .lt (.var 2) (.un .len (.var 0)))
   (.br (.un .not (.bi .and (.bi .eq (.te .get (.var 0) (.var 2) (.lit 0)) (.te .get (.var 1) (.var 2) (.lit 0))) (.bi .eq (.te .get (.var 0) (.var 2) (.lit 1)) (.te .get (.var 1) (.var 2) (.lit 1)))))
    (.ret [(.bl false)])
    (.goto 1 [(.var 0), (.var 1), (.bi .add (.var 2) (.lit 1))]))
   (.ret [(.bl true)]))]
set_option maxRecDepth 100000 in
theorem sEqF : tmsEqF.map (summaryF (cx [] [23]) 6000 3 tmsEqF cEqF.rt) = ssEqF := by kernel_rfl

noncomputable def tmsScores : List Tm := [entryTm Tryd.prog cScores,
  ⟨⟨⟨12, tl 32 [(3, (.slice 2 1 (.lit 0) (.un .len (.var 1)) none)), (11, (.slice 1 1 (.lit 0) (.bi .min (.un .len (.var 0)) (.lit 24)) none)), (12, (.int .i64 (.bi .min (.un .len (.var 0)) (.lit 24)))), (13, (.int .i64 (.var 2)))], [.at [0, 0, 1, 0, 1, 1], .lp [0, 1, 0, 1, 1], .blk 0, .at [1, 1, 1]], [], none⟩, [], [.dead, (.rows true [(.int .i16)] (.var 0)), (.rows false [(.int .i64)] (.var 1))]⟩, 3, [(.bi .le (.var 2) (.bi .min (.un .len (.var 0)) (.lit 24))), (.bi .eq (.un .len (.var 1)) (.var 2)), (.bi .le (.bi .min (.un .len (.var 0)) (.lit 24)) (.un .len (.var 0))), (.te .elems (.var 0) (.lit (-32768)) (.lit 32767))]⟩]
def ssScores : List ST := [(.need [(.bi .le (.bi .min (.un .len (.var 0)) (.lit 24)) (.un .len (.var 0)))] (.goto 1 [(.var 0), .nil, (.lit 0)])),
  (.br (.bi .lt (.var 2) (.bi .min (.un .len (.var 0)) (.lit 24)))
   (.br (.un .not (.bi .eq (.bi .rem (.te .get (.var 0) (.var 2) (.lit 0)) (.lit 8)) (.lit 0)))
    (.goto 1 [(.var 0), (.bi .snoc (.var 1) (.bi .cons (.bi .mul (.bi .quo (.bi .rem (.te .get (.var 0) (.var 2) (.lit 0)) (.lit 7601)) (.lit 10)) (.lit 10)) .nil)), (.bi .add (.var 2) (.lit 1))])
    (.goto 1 [(.var 0), (.bi .snoc (.var 1) (.bi .cons (.bi .rem (.te .get (.var 0) (.var 2) (.lit 0)) (.lit 7601)) .nil)), (.bi .add (.var 2) (.lit 1))]))
   (.ret [(.var 1)]))]
set_option maxRecDepth 100000 in
theorem sScores : tmsScores.map (summaryF (cx [] [12]) 6000 2 tmsScores cScores.rt) = ssScores := by kernel_rfl

end Go.Proofs.YtnpadkajapialaaDoor
