/- Chapter 27: the summaries of its functions, as the kernel reckons them. -/
import Derived.Test.YtiohgpifeamkhaaC27Defs
import Derived.Test.YtiohgpifeamkhaaProg
namespace Go.Proofs.Ytiohgpifeamkhaa
open Go Go.Sx Go.Proofs.C27

noncomputable def cx (ctrs : List Ctr) (fs : List Nat) : Ctx := { P := Try.prog, gl := [], ng := 0, ctrs, heads := fs.flatMap fun f => (loopPaths (bodyOf Try.prog f) []).map fun p => (f, p) }

theorem glIn (ctrs : List Ctr) (fs : List Nat) : GlIn (cx ctrs fs).gl (cx ctrs fs).ng := by
  intro g h hh
  cases hh

theorem re {I : Itp} {c : Ctr} {ctrs ctrs' : List Ctr} {fs fs' : List Nat} (h : c.Valid (cx ctrs fs) I) : c.Valid (cx ctrs' fs') I := ⟨h.has, h.wf, h.run⟩

/-- contracts, all of them valid -/
inductive AllV : List Ctr → Prop where
  | nil : AllV []
  | cons {c : Ctr} {cs : List Ctr} : c.Valid (cx [] []) I27 → AllV cs → AllV (c :: cs)
theorem allOf {cs : List Ctr} {fs : List Nat} (h : AllV cs) : ∀ c ∈ (cx cs fs).ctrs, c.Valid (cx cs fs) I27 := by
  have : ∀ c ∈ cs, c.Valid (cx [] []) I27 := by
    induction h with
    | nil => intro c hc; cases hc
    | cons h1 _ ih =>
      intro c hc
      rcases List.mem_cons.1 hc with rfl | hc
      · exact h1
      · exact ih c hc
  exact fun c hc => re (this c hc)

/-- a contract's run, looked at value by value -/
theorem runs_of {I : Itp} {pres : List (List E)} {sums : List ST} {k j : Nat} {ρ out : List U} (h : decide (goN I pres sums k j ρ = some out) = true) : Runs I pres sums j ρ out := ⟨k, of_decide_eq_true h⟩

theorem w64 {x : Int} (h1 : -9223372036854775808 ≤ x) (h2 : x ≤ 9223372036854775807) : IntKind.wrap .i64 x = x := wrap_fit (by simpa [IntKind.min, IntKind.signed, IntKind.bits] using h1) (by simpa [IntKind.max, IntKind.signed, IntKind.bits] using h2)

section
variable {I : Itp} {ρ : List U} {G : Nat → List U → Prop} {Fin : List U → Prop}
theorem br_f {c : E} {a b : ST} (h : (c.den I ρ).b = false) (hb : StOk I ρ G Fin b) : StOk I ρ G Fin (.br c a b) := ⟨fun e => (by rw [h] at e; cases e), fun _ => hb⟩
theorem br_t {c : E} {a b : ST} (h : (c.den I ρ).b = true) (ha : StOk I ρ G Fin a) : StOk I ρ G Fin (.br c a b) := ⟨fun _ => ha, fun e => (by rw [h] at e; cases e)⟩
theorem ne_ed {ns : List E} {t : ST} (h : Holds I ρ ns) (ht : StOk I ρ G Fin t) : StOk I ρ G Fin (.need ns t) := ⟨h, fun _ => ht⟩
end

noncomputable def tmsMost : List Tm := [entryTm Try.prog cMost]
def ssMost : List ST := [(.br (.bi .lt (.var 0) (.lit 2))
   (.ret [(.lit 0), (.lit 2)])
   (.br (.bi .lt (.lit 24) (.var 0))
    (.ret [(.lit 0), (.lit 2)])
    (.br (.bi .eq (.var 1) (.lit 2))
     (.br (.bi .eq (.var 0) (.lit 2))
      (.ret [(.lit 0), (.lit 6)])
      (.br (.bi .eq (.bi .rem (.var 0) (.lit 2)) (.lit 1))
       (.ret [(.lit 0), (.lit 6)])
       (.ret [(.bi .quo (.var 0) (.lit 2)), (.lit 0)])))
     (.br (.bi .eq (.var 1) (.lit 1))
      (.br (.bi .eq (.bi .rem (.var 0) (.lit 2)) (.lit 1))
       (.ret [(.lit 0), (.lit 6)])
       (.ret [(.bi .quo (.var 0) (.lit 2)), (.lit 0)]))
      (.br (.bi .eq (.var 1) (.lit 3))
       (.ret [(.var 0), (.lit 0)])
       (.ret [(.lit 0), (.lit 2)]))))))]
set_option maxRecDepth 100000 in
theorem sMost : tmsMost.map (summaryF (cx [] []) 6000 0 tmsMost cMost.rt) = ssMost := by kernel_rfl

noncomputable def tmsRMost : List Tm := [entryTm Try.prog cRMost]
def ssRMost : List ST := [(.br (.bi .lt (.var 0) (.lit 2))
   (.ret [(.lit 0), (.lit 2)])
   (.br (.bi .lt (.lit 24) (.var 0))
    (.ret [(.lit 0), (.lit 2)])
    (.br (.bi .lt (.var 1) (.lit 1))
     (.ret [(.lit 0), (.lit 2)])
     (.br (.bi .lt (.lit 3) (.var 1))
      (.ret [(.lit 0), (.lit 2)])
      (.br (.bi .eq (.var 1) (.lit 3))
       (.ret [(.var 0), (.lit 0)])
       (.br (.bi .eq (.bi .rem (.var 0) (.lit 2)) (.lit 1))
        (.ret [(.lit 0), (.lit 6)])
        (.br (.bi .eq (.var 1) (.lit 2))
         (.br (.bi .lt (.var 0) (.lit 4))
          (.ret [(.lit 0), (.lit 6)])
          (.ret [(.bi .quo (.var 0) (.lit 2)), (.lit 0)]))
         (.ret [(.bi .quo (.var 0) (.lit 2)), (.lit 0)]))))))))]
set_option maxRecDepth 100000 in
theorem sRMost : tmsRMost.map (summaryF (cx [] []) 6000 0 tmsRMost cRMost.rt) = ssRMost := by kernel_rfl

noncomputable def tmsRSets : List Tm := [entryTm Try.prog cRSets]
def ssRSets : List ST := [(.br (.bi .eq (.var 1) (.lit 3))
   (.ret [(.var 0)])
   (.br (.bi .eq (.var 1) (.lit 2))
    (.ret [(.bi .add (.var 0) (.lit (-1)))])
    (.br (.bi .eq (.bi .rem (.bi .quo (.var 0) (.lit 2)) (.lit 2)) (.lit 1))
     (.ret [(.bi .quo (.var 0) (.lit 2))])
     (.ret [(.bi .add (.bi .quo (.var 0) (.lit 2)) (.lit 1))]))))]
set_option maxRecDepth 100000 in
theorem sRSets : tmsRSets.map (summaryF (cx [] []) 6000 0 tmsRSets cRSets.rt) = ssRSets := by kernel_rfl

noncomputable def tmsMake : List Tm := [entryTm Try.prog cMake,
  ⟨⟨⟨18, tl 84 [(0, (.int .i64 (.var 0))), (2, (.int .u8 (.var 2))), (6, (.ptr 0 (.lit 0) (.lit 0))), (8, (.ptr 1 (.lit 0) (.lit 0))), (10, (.ptr 2 (.lit 0) (.lit 0))), (42, (.int .i64 (.var 1))), (43, (.int .i64 (.var 6)))], [.at [0, 0, 1, 0, 1, 1, 1, 1], .lp [0, 1, 0, 1, 1, 1, 1], .blk 1, .at [1, 1, 1, 1, 1]], [], none⟩, [], [(.cells false [(.int .i64 (.lit 0)), (.int .i64 (.lit 0)), (.int .i64 (.lit 0)), (.int .i64 (.lit 0)), (.int .i64 (.lit 0)), .nils]), (.cells false [(.int .i64 (.var 3)), (.int .i64 (.var 4)), (.int .i64 (.var 5))]), (.cells false [(.int .i64 (.var 0)), (.int .i64 (.var 1)), (.int .i64 (.var 3)), (.int .i64 (.var 5)), (.int .i64 (.lit 2)), (.slice 3 5 (.lit 0) (.un .len (.var 7)) none)]), (.rows false [(.int .i64), (.int .i64), (.int .i64), (.int .i64), (.int .i64)] (.var 7))]⟩, 8, [(.bi .le (.lit 0) (.var 2)), (.bi .le (.lit 0) (.var 4)), (.bi .le (.lit 2) (.var 5)), (.bi .le (.lit 1) (.var 1)), (.bi .le (.var 0) (.lit 24)), (.bi .le (.lit 2) (.var 0)), (.bi .le (.var 2) (.lit 255))]⟩,
  ⟨⟨⟨18, tl 84 [(0, (.int .i64 (.var 0))), (2, (.int .u8 (.var 2))), (6, (.ptr 0 (.lit 0) (.lit 0))), (8, (.ptr 1 (.lit 0) (.lit 0))), (10, (.ptr 2 (.lit 0) (.lit 0))), (11, (.int .i64 (.var 8))), (42, (.int .i64 (.var 1))), (43, (.int .i64 (.var 8))), (46, (.int .i64 (.var 0))), (47, (.int .i64 (.var 7)))], [.at [0, 0, 1, 1, 0, 0, 1, 1, 0, 0, 1, 0, 1, 1, 1, 1], .lp [0, 1, 1, 0, 0, 1, 1, 0, 0, 1, 0, 1, 1, 1, 1], .blk 3, .blk 2, .at [1, 1, 1, 0, 0, 1, 0, 1, 1, 1, 1], .lp [0, 1, 0, 1, 1, 1, 1], .blk 1, .at [1, 1, 1, 1, 1]], [], none⟩, [], [(.cells false [(.int .i64 (.lit 0)), (.int .i64 (.lit 0)), (.int .i64 (.lit 0)), (.int .i64 (.lit 0)), (.int .i64 (.lit 0)), .nils]), (.cells false [(.int .i64 (.var 3)), (.int .i64 (.var 4)), (.int .i64 (.var 5))]), (.cells false [(.int .i64 (.var 0)), (.int .i64 (.var 1)), (.int .i64 (.var 3)), (.int .i64 (.var 5)), (.int .i64 (.lit 2)), (.slice 3 5 (.lit 0) (.un .len (.var 6)) none)]), (.rows false [(.int .i64), (.int .i64), (.int .i64), (.int .i64), (.int .i64)] (.var 6))]⟩, 9, [(.bi .le (.lit 0) (.var 2)), (.bi .le (.lit 0) (.var 4)), (.bi .le (.lit 0) (.var 7)), (.bi .le (.var 7) (.var 0)), (.bi .le (.var 7) (.un .len (.var 6))), (.bi .le (.var 8) (.var 1)), (.bi .le (.lit 2) (.var 5)), (.bi .le (.lit 1) (.var 1)), (.bi .le (.var 0) (.lit 24)), (.bi .le (.lit 2) (.var 0)), (.bi .le (.var 2) (.lit 255))]⟩]
def ssMake : List ST := [(.br (.bi .lt (.var 0) (.lit 2))
   (.ret [(.lit 0), (.lit 0), (.lit 0), (.lit 0), (.lit 0), .nil, (.lit 2)])
   (.br (.bi .lt (.lit 24) (.var 0))
    (.ret [(.lit 0), (.lit 0), (.lit 0), (.lit 0), (.lit 0), .nil, (.lit 2)])
    (.br (.bi .eq (.var 2) (.lit 2))
     (.br (.bi .eq (.var 0) (.lit 2))
      (.ret [(.lit 0), (.lit 0), (.lit 0), (.lit 0), (.lit 0), .nil, (.lit 6)])
      (.br (.bi .eq (.bi .rem (.var 0) (.lit 2)) (.lit 1))
       (.ret [(.lit 0), (.lit 0), (.lit 0), (.lit 0), (.lit 0), .nil, (.lit 6)])
       (.br (.bi .lt (.var 1) (.lit 1))
        (.ret [(.lit 0), (.lit 0), (.lit 0), (.lit 0), (.lit 0), .nil, (.lit 2)])
        (.br (.bi .lt (.bi .quo (.var 0) (.lit 2)) (.var 1))
         (.ret [(.lit 0), (.lit 0), (.lit 0), (.lit 0), (.lit 0), .nil, (.lit 5)])
         (.goto 1 [(.var 0), (.var 1), (.var 2), (.bi .add (.var 0) (.lit (-1))), (.bi .quo (.var 0) (.lit 2)), (.lit 2), (.lit 0), .nil])))))
     (.br (.bi .eq (.var 2) (.lit 1))
      (.br (.bi .eq (.bi .rem (.var 0) (.lit 2)) (.lit 1))
       (.ret [(.lit 0), (.lit 0), (.lit 0), (.lit 0), (.lit 0), .nil, (.lit 6)])
       (.br (.bi .lt (.var 1) (.lit 1))
        (.ret [(.lit 0), (.lit 0), (.lit 0), (.lit 0), (.lit 0), .nil, (.lit 2)])
        (.br (.bi .lt (.bi .quo (.var 0) (.lit 2)) (.var 1))
         (.ret [(.lit 0), (.lit 0), (.lit 0), (.lit 0), (.lit 0), .nil, (.lit 5)])
         (.goto 1 [(.var 0), (.var 1), (.var 2), (.bi (.bit .or .i64) (.bi .quo (.var 0) (.lit 2)) (.lit 1)), (.bi .quo (.var 0) (.lit 2)), (.lit 2), (.lit 0), .nil]))))
      (.br (.bi .eq (.var 2) (.lit 3))
       (.br (.bi .lt (.var 1) (.lit 1))
        (.ret [(.lit 0), (.lit 0), (.lit 0), (.lit 0), (.lit 0), .nil, (.lit 2)])
        (.br (.bi .lt (.var 0) (.var 1))
         (.ret [(.lit 0), (.lit 0), (.lit 0), (.lit 0), (.lit 0), .nil, (.lit 5)])
         (.goto 1 [(.var 0), (.var 1), (.var 2), (.var 0), (.var 0), (.var 0), (.lit 0), .nil])))
       (.ret [(.lit 0), (.lit 0), (.lit 0), (.lit 0), (.lit 0), .nil, (.lit 2)])))))),
  (.br (.bi .lt (.var 6) (.var 1))
   (.goto 2 [(.var 0), (.var 1), (.var 2), (.var 3), (.var 4), (.var 5), (.var 7), (.lit 0), (.var 6)])
   (.ret [(.var 0), (.var 1), (.var 3), (.var 5), (.lit 2), (.var 7), (.lit 0)])),
  (.br (.bi .lt (.var 7) (.var 0))
   (.need [(.un .not (.bi .eq (.var 3) (.lit 0)))] (.br (.bi .eq (.var 2) (.lit 3))
    (.need [(.bi .le (.bi .add (.un .len (.var 6)) (.lit 1)) (.lit 3432621667203))] (.goto 2 [(.var 0), (.var 1), (.var 2), (.var 3), (.var 4), (.var 5), (.bi .snoc (.var 6) (.bi .cons (.var 8) (.bi .cons (.var 7) (.bi .cons (.bi .add (.var 7) (.lit 1)) (.bi .cons (.bi .add (.bi .add (.var 0) (.bi .rem (.un (.wrap .i64) (.bi .add (.un (.wrap .i64) (.bi .sub (.var 7) (.var 8))) (.var 0))) (.var 0))) (.lit 1)) (.bi .cons (.var 8) .nil)))))), (.bi .add (.var 7) (.lit 1)), (.var 8)]))
    (.need [(.bi .le (.bi .add (.un .len (.var 6)) (.lit 1)) (.lit 3432621667203))] (.goto 2 [(.var 0), (.var 1), (.var 2), (.var 3), (.var 4), (.var 5), (.bi .snoc (.var 6) (.bi .cons (.var 8) (.bi .cons (.var 7) (.bi .cons (.bi .add (.var 7) (.lit 1)) (.bi .cons (.bi .add (.bi .add (.var 0) (.bi .rem (.un (.wrap .i64) (.bi .add (.un (.wrap .i64) (.bi .sub (.var 7) (.var 8))) (.var 0))) (.var 0))) (.lit 1)) (.bi .cons (.bi .rem (.un (.wrap .i64) (.bi .add (.var 7) (.var 8))) (.var 3)) .nil)))))), (.bi .add (.var 7) (.lit 1)), (.var 8)]))))
   (.goto 1 [(.var 0), (.var 1), (.var 2), (.var 3), (.var 4), (.var 5), (.un (.wrap .i64) (.bi .add (.var 8) (.lit 1))), (.var 6)]))]
set_option maxRecDepth 100000 in
theorem sMake : tmsMake.map (summaryF (cx [] [18]) 6000 0 tmsMake cMake.rt) = ssMake := by kernel_rfl

noncomputable def tmsRMake : List Tm := [entryTm Try.prog cRMake,
  ⟨⟨⟨14, tl 85 [(0, (.int .i64 (.var 0))), (1, (.int .i64 (.var 1))), (2, (.int .u8 (.var 2))), (6, (.ptr 0 (.lit 0) (.lit 0))), (10, (.ptr 1 (.lit 0) (.lit 0))), (11, (.int .i64 (.var 4)))], [.at [0, 0, 1, 0, 1, 1, 1, 1, 1, 1, 1], .lp [0, 1, 0, 1, 1, 1, 1, 1, 1, 1], .blk 0, .at [1, 1, 1, 1, 1, 1, 1, 1]], [], none⟩, [], [(.cells false [(.int .i64 (.lit 0)), (.int .i64 (.lit 0)), (.int .i64 (.lit 0)), (.int .i64 (.lit 0)), (.int .i64 (.lit 0)), .nils]), (.cells false [(.int .i64 (.var 0)), (.int .i64 (.var 1)), (.int .i64 (.fn2 3 (.var 0) (.var 2))), (.int .i64 (.var 3)), (.int .i64 (.lit 2)), (.slice 2 5 (.lit 0) (.un .len (.var 5)) none)]), (.rows false [(.int .i64), (.int .i64), (.int .i64), (.int .i64), (.int .i64)] (.var 5))]⟩, 6, [(.bi .le (.lit 2) (.var 3)), (.bi .le (.lit 2) (.var 0)), (.bi .le (.var 0) (.lit 24)), (.bi .le (.lit 1) (.var 2)), (.bi .le (.var 2) (.lit 3)), (.bi .le (.var 1) (.fn2 0 (.var 0) (.var 2))), (.bi .le (.lit 1) (.var 1)), (.bi .eq (.fn2 1 (.var 0) (.var 2)) (.lit 0))]⟩,
  ⟨⟨⟨14, tl 85 [(0, (.int .i64 (.var 0))), (1, (.int .i64 (.var 1))), (2, (.int .u8 (.var 2))), (6, (.ptr 0 (.lit 0) (.lit 0))), (10, (.ptr 1 (.lit 0) (.lit 0))), (11, (.int .i64 (.var 6))), (12, (.int .i64 (.var 5)))], [.at [0, 0, 1, 0, 0, 1, 0, 0, 1, 0, 1, 1, 1, 1, 1, 1, 1], .lp [0, 1, 0, 0, 1, 0, 0, 1, 0, 1, 1, 1, 1, 1, 1, 1], .blk 2, .blk 1, .at [1, 1, 0, 0, 1, 0, 1, 1, 1, 1, 1, 1, 1], .lp [0, 1, 0, 1, 1, 1, 1, 1, 1, 1], .blk 0, .at [1, 1, 1, 1, 1, 1, 1, 1]], [], none⟩, [], [(.cells false [(.int .i64 (.lit 0)), (.int .i64 (.lit 0)), (.int .i64 (.lit 0)), (.int .i64 (.lit 0)), (.int .i64 (.lit 0)), .nils]), (.cells false [(.int .i64 (.var 0)), (.int .i64 (.var 1)), (.int .i64 (.fn2 3 (.var 0) (.var 2))), (.int .i64 (.var 3)), (.int .i64 (.lit 2)), (.slice 2 5 (.lit 0) (.un .len (.var 4)) none)]), (.rows false [(.int .i64), (.int .i64), (.int .i64), (.int .i64), (.int .i64)] (.var 4))]⟩, 7, [(.bi .le (.lit 0) (.var 5)), (.bi .le (.var 5) (.var 0)), (.bi .le (.var 5) (.un .len (.var 4))), (.bi .le (.var 6) (.var 1)), (.bi .le (.lit 2) (.var 3)), (.bi .le (.lit 2) (.var 0)), (.bi .le (.var 0) (.lit 24)), (.bi .le (.lit 1) (.var 2)), (.bi .le (.var 2) (.lit 3)), (.bi .le (.var 1) (.fn2 0 (.var 0) (.var 2))), (.bi .le (.lit 1) (.var 1)), (.bi .eq (.fn2 1 (.var 0) (.var 2)) (.lit 0))]⟩]
def ssRMake : List ST := [(.br (.un .not (.bi .eq (.fn2 1 (.var 0) (.var 2)) (.lit 0)))
   (.ret [(.lit 0), (.lit 0), (.lit 0), (.lit 0), (.lit 0), .nil, (.fn2 1 (.var 0) (.var 2))])
   (.br (.bi .lt (.var 1) (.lit 1))
    (.ret [(.lit 0), (.lit 0), (.lit 0), (.lit 0), (.lit 0), .nil, (.lit 2)])
    (.br (.bi .lt (.fn2 0 (.var 0) (.var 2)) (.var 1))
     (.ret [(.lit 0), (.lit 0), (.lit 0), (.lit 0), (.lit 0), .nil, (.lit 5)])
     (.need [(.bi .le (.lit 2) (.var 0)), (.bi .le (.var 0) (.lit 24)), (.bi .le (.lit 1) (.var 2)), (.bi .le (.var 2) (.lit 3))] (.br (.bi .eq (.var 2) (.lit 3))
      (.goto 1 [(.var 0), (.var 1), (.var 2), (.var 0), (.lit 0), .nil])
      (.goto 1 [(.var 0), (.var 1), (.var 2), (.lit 2), (.lit 0), .nil])))))),
  (.br (.bi .lt (.var 4) (.var 1))
   (.goto 2 [(.var 0), (.var 1), (.var 2), (.var 3), (.var 5), (.lit 0), (.var 4)])
   (.ret [(.var 0), (.var 1), (.fn2 3 (.var 0) (.var 2)), (.var 3), (.lit 2), (.var 5), (.lit 0)])),
  (.br (.bi .lt (.var 5) (.var 0))
   (.br (.bi .lt (.un (.wrap .i64) (.bi .sub (.var 5) (.var 6))) (.lit 0))
    (.br (.un .not (.bi .eq (.var 2) (.lit 3)))
     (.need [(.un .not (.bi .eq (.fn2 3 (.var 0) (.var 2)) (.lit 0)))] (.need [(.bi .le (.bi .add (.un .len (.var 4)) (.lit 1)) (.lit 3432621667203))] (.goto 2 [(.var 0), (.var 1), (.var 2), (.var 3), (.bi .snoc (.var 4) (.bi .cons (.var 6) (.bi .cons (.var 5) (.bi .cons (.bi .add (.var 5) (.lit 1)) (.bi .cons (.bi .add (.bi .add (.var 0) (.bi .add (.un (.wrap .i64) (.bi .sub (.var 5) (.var 6))) (.var 0))) (.lit 1)) (.bi .cons (.bi .rem (.un (.wrap .i64) (.bi .add (.var 5) (.var 6))) (.fn2 3 (.var 0) (.var 2))) .nil)))))), (.bi .add (.var 5) (.lit 1)), (.var 6)])))
     (.need [(.bi .le (.bi .add (.un .len (.var 4)) (.lit 1)) (.lit 3432621667203))] (.goto 2 [(.var 0), (.var 1), (.var 2), (.var 3), (.bi .snoc (.var 4) (.bi .cons (.var 6) (.bi .cons (.var 5) (.bi .cons (.bi .add (.var 5) (.lit 1)) (.bi .cons (.bi .add (.bi .add (.var 0) (.bi .add (.un (.wrap .i64) (.bi .sub (.var 5) (.var 6))) (.var 0))) (.lit 1)) (.bi .cons (.var 6) .nil)))))), (.bi .add (.var 5) (.lit 1)), (.var 6)])))
    (.br (.un .not (.bi .eq (.var 2) (.lit 3)))
     (.need [(.un .not (.bi .eq (.fn2 3 (.var 0) (.var 2)) (.lit 0)))] (.need [(.bi .le (.bi .add (.un .len (.var 4)) (.lit 1)) (.lit 3432621667203))] (.goto 2 [(.var 0), (.var 1), (.var 2), (.var 3), (.bi .snoc (.var 4) (.bi .cons (.var 6) (.bi .cons (.var 5) (.bi .cons (.bi .add (.var 5) (.lit 1)) (.bi .cons (.un (.wrap .i64) (.bi .add (.bi .add (.var 0) (.un (.wrap .i64) (.bi .sub (.var 5) (.var 6)))) (.lit 1))) (.bi .cons (.bi .rem (.un (.wrap .i64) (.bi .add (.var 5) (.var 6))) (.fn2 3 (.var 0) (.var 2))) .nil)))))), (.bi .add (.var 5) (.lit 1)), (.var 6)])))
     (.need [(.bi .le (.bi .add (.un .len (.var 4)) (.lit 1)) (.lit 3432621667203))] (.goto 2 [(.var 0), (.var 1), (.var 2), (.var 3), (.bi .snoc (.var 4) (.bi .cons (.var 6) (.bi .cons (.var 5) (.bi .cons (.bi .add (.var 5) (.lit 1)) (.bi .cons (.un (.wrap .i64) (.bi .add (.bi .add (.var 0) (.un (.wrap .i64) (.bi .sub (.var 5) (.var 6)))) (.lit 1))) (.bi .cons (.var 6) .nil)))))), (.bi .add (.var 5) (.lit 1)), (.var 6)]))))
   (.goto 1 [(.var 0), (.var 1), (.var 2), (.var 3), (.un (.wrap .i64) (.bi .add (.var 6) (.lit 1))), (.var 4)]))]
set_option maxRecDepth 100000 in
theorem sRMake : tmsRMake.map (summaryF (cx [cRMost, cRSets] [14]) 6000 0 tmsRMake cRMake.rt) = ssRMake := by kernel_rfl

noncomputable def tmsRows : List Tm := [entryTm Try.prog cRows,
  ⟨⟨⟨42, tl 26 [(0, (.slice 0 5 (.lit 0) (.un .len (.var 0)) none)), (1, (.slice 1 5 (.lit 0) (.un .len (.var 1)) none)), (5, (.int .i64 (.var 2)))], [.at [0, 0, 1, 0, 1, 1], .lp [0, 1, 0, 1, 1], .blk 0, .at [1, 1, 1]], [], none⟩, [], [(.rows true [(.int .i64), (.int .i64), (.int .i64), (.int .i64), (.int .i64)] (.var 0)), (.rows true [(.int .i64), (.int .i64), (.int .i64), (.int .i64), (.int .i64)] (.var 1))]⟩, 3, [(.bi .le (.lit 0) (.var 2)), (.bi .le (.var 2) (.un .len (.var 0))), (.bi .eq (.un .len (.var 0)) (.un .len (.var 1))), (.bi .le (.un .len (.var 0)) (.lit 5000))]⟩]
def ssRows : List ST := [(.br (.un .not (.bi .eq (.un .len (.var 0)) (.un .len (.var 1))))
   (.ret [(.bl false)])
   (.goto 1 [(.var 0), (.var 1), (.lit 0)])),
  (.br (.bi .lt (.var 2) (.un .len (.var 0)))
   (.br (.un .not (.bi .and (.bi .eq (.te .get (.var 0) (.var 2) (.lit 0)) (.te .get (.var 1) (.var 2) (.lit 0))) (.bi .and (.bi .eq (.te .get (.var 0) (.var 2) (.lit 1)) (.te .get (.var 1) (.var 2) (.lit 1))) (.bi .and (.bi .eq (.te .get (.var 0) (.var 2) (.lit 2)) (.te .get (.var 1) (.var 2) (.lit 2))) (.bi .and (.bi .eq (.te .get (.var 0) (.var 2) (.lit 3)) (.te .get (.var 1) (.var 2) (.lit 3))) (.bi .eq (.te .get (.var 0) (.var 2) (.lit 4)) (.te .get (.var 1) (.var 2) (.lit 4))))))))
    (.ret [(.bl false)])
    (.goto 1 [(.var 0), (.var 1), (.bi .add (.var 2) (.lit 1))]))
   (.ret [(.bl true)]))]
set_option maxRecDepth 100000 in
theorem sRows : tmsRows.map (summaryF (cx [] [42]) 6000 2 tmsRows cRows.rt) = ssRows := by kernel_rfl

noncomputable def tmsSame : List Tm := [entryTm Try.prog cSame]
def ssSame : List ST := [(.ret [(.fn2 10 (.var 5) (.var 11))])]
set_option maxRecDepth 100000 in
theorem sSame : tmsSame.map (summaryF (cx [cRows] []) 6000 2 tmsSame cSame.rt) = ssSame := by kernel_rfl

noncomputable def tmsRowsN : List Tm := [entryTm Try.prog cRowsN,
  ⟨⟨⟨42, tl 26 [(0, (.slice 0 5 (.lit 0) (.un .len (.var 0)) none)), (1, .nils), (5, (.int .i64 (.lit 0)))], [.at [0, 0, 1, 0, 1, 1], .lp [0, 1, 0, 1, 1], .blk 0, .at [1, 1, 1]], [], none⟩, [], [(.rows true [(.int .i64), (.int .i64), (.int .i64), (.int .i64), (.int .i64)] (.var 0))]⟩, 1, [(.bi .eq (.un .len (.var 0)) (.lit 0))]⟩]
def ssRowsN : List ST := [(.goto 1 [(.var 0)]),
  (.ret [(.bl true)])]
set_option maxRecDepth 100000 in
theorem sRowsN : tmsRowsN.map (summaryF (cx [] [42]) 6000 1 tmsRowsN cRowsN.rt) = ssRowsN := by kernel_rfl

noncomputable def tmsSameN : List Tm := [entryTm Try.prog cSameN]
def ssSameN : List ST := [(.ret [(.bl true)])]
set_option maxRecDepth 100000 in
theorem sSameN : tmsSameN.map (summaryF (cx [cRowsN] []) 6000 1 tmsSameN cSameN.rt) = ssSameN := by kernel_rfl

noncomputable def tmsMakes : List Tm := [entryTm Try.prog cMakes]
def ssMakes : List ST := [(.need [(.bi .le (.un .len (.fn3 1 (.var 0) (.var 1) (.var 2))) (.lit 5000)), (.fn2 10 (.fn3 1 (.var 0) (.var 1) (.var 2)) (.fn3 1 (.var 0) (.var 1) (.var 2)))] (.ret [(.bl true)]))]
set_option maxRecDepth 100000 in
theorem sMakes : tmsMakes.map (summaryF (cx [cMost, cRMost, cMake, cRMake, cSame] []) 6000 0 tmsMakes cMakes.rt) = ssMakes := by kernel_rfl

noncomputable def tmsMade : List Tm := [entryTm Try.prog cMade]
def ssMade : List ST := [(.br (.un .not (.bi .eq (.bi .add (.bi .rem (.var 2) (.lit 3)) (.lit 1)) (.lit 3)))
   (.br (.bi .eq (.bi .add (.bi .rem (.var 2) (.lit 3)) (.lit 1)) (.lit 2))
    (.ret [(.fn3 2 (.bi .max (.bi (.bit .andNot .i64) (.bi .add (.bi .rem (.var 0) (.lit 23)) (.lit 2)) (.lit 1)) (.lit 4)) (.un (.wrap .i64) (.bi .add (.bi .rem (.var 1) (.bi .max (.fn2 0 (.bi .max (.bi (.bit .andNot .i64) (.bi .add (.bi .rem (.var 0) (.lit 23)) (.lit 2)) (.lit 1)) (.lit 4)) (.bi .add (.bi .rem (.var 2) (.lit 3)) (.lit 1))) (.lit 1))) (.lit 1))) (.bi .add (.bi .rem (.var 2) (.lit 3)) (.lit 1))), (.fn3 3 (.bi .max (.bi (.bit .andNot .i64) (.bi .add (.bi .rem (.var 0) (.lit 23)) (.lit 2)) (.lit 1)) (.lit 4)) (.un (.wrap .i64) (.bi .add (.bi .rem (.var 1) (.bi .max (.fn2 0 (.bi .max (.bi (.bit .andNot .i64) (.bi .add (.bi .rem (.var 0) (.lit 23)) (.lit 2)) (.lit 1)) (.lit 4)) (.bi .add (.bi .rem (.var 2) (.lit 3)) (.lit 1))) (.lit 1))) (.lit 1))) (.bi .add (.bi .rem (.var 2) (.lit 3)) (.lit 1))), (.fn3 4 (.bi .max (.bi (.bit .andNot .i64) (.bi .add (.bi .rem (.var 0) (.lit 23)) (.lit 2)) (.lit 1)) (.lit 4)) (.un (.wrap .i64) (.bi .add (.bi .rem (.var 1) (.bi .max (.fn2 0 (.bi .max (.bi (.bit .andNot .i64) (.bi .add (.bi .rem (.var 0) (.lit 23)) (.lit 2)) (.lit 1)) (.lit 4)) (.bi .add (.bi .rem (.var 2) (.lit 3)) (.lit 1))) (.lit 1))) (.lit 1))) (.bi .add (.bi .rem (.var 2) (.lit 3)) (.lit 1))), (.fn3 5 (.bi .max (.bi (.bit .andNot .i64) (.bi .add (.bi .rem (.var 0) (.lit 23)) (.lit 2)) (.lit 1)) (.lit 4)) (.un (.wrap .i64) (.bi .add (.bi .rem (.var 1) (.bi .max (.fn2 0 (.bi .max (.bi (.bit .andNot .i64) (.bi .add (.bi .rem (.var 0) (.lit 23)) (.lit 2)) (.lit 1)) (.lit 4)) (.bi .add (.bi .rem (.var 2) (.lit 3)) (.lit 1))) (.lit 1))) (.lit 1))) (.bi .add (.bi .rem (.var 2) (.lit 3)) (.lit 1))), (.fn3 6 (.bi .max (.bi (.bit .andNot .i64) (.bi .add (.bi .rem (.var 0) (.lit 23)) (.lit 2)) (.lit 1)) (.lit 4)) (.un (.wrap .i64) (.bi .add (.bi .rem (.var 1) (.bi .max (.fn2 0 (.bi .max (.bi (.bit .andNot .i64) (.bi .add (.bi .rem (.var 0) (.lit 23)) (.lit 2)) (.lit 1)) (.lit 4)) (.bi .add (.bi .rem (.var 2) (.lit 3)) (.lit 1))) (.lit 1))) (.lit 1))) (.bi .add (.bi .rem (.var 2) (.lit 3)) (.lit 1))), (.fn3 1 (.bi .max (.bi (.bit .andNot .i64) (.bi .add (.bi .rem (.var 0) (.lit 23)) (.lit 2)) (.lit 1)) (.lit 4)) (.un (.wrap .i64) (.bi .add (.bi .rem (.var 1) (.bi .max (.fn2 0 (.bi .max (.bi (.bit .andNot .i64) (.bi .add (.bi .rem (.var 0) (.lit 23)) (.lit 2)) (.lit 1)) (.lit 4)) (.bi .add (.bi .rem (.var 2) (.lit 3)) (.lit 1))) (.lit 1))) (.lit 1))) (.bi .add (.bi .rem (.var 2) (.lit 3)) (.lit 1))), (.bi .add (.bi .rem (.var 2) (.lit 3)) (.lit 1))])
    (.ret [(.fn3 2 (.bi (.bit .andNot .i64) (.bi .add (.bi .rem (.var 0) (.lit 23)) (.lit 2)) (.lit 1)) (.un (.wrap .i64) (.bi .add (.bi .rem (.var 1) (.bi .max (.fn2 0 (.bi (.bit .andNot .i64) (.bi .add (.bi .rem (.var 0) (.lit 23)) (.lit 2)) (.lit 1)) (.bi .add (.bi .rem (.var 2) (.lit 3)) (.lit 1))) (.lit 1))) (.lit 1))) (.bi .add (.bi .rem (.var 2) (.lit 3)) (.lit 1))), (.fn3 3 (.bi (.bit .andNot .i64) (.bi .add (.bi .rem (.var 0) (.lit 23)) (.lit 2)) (.lit 1)) (.un (.wrap .i64) (.bi .add (.bi .rem (.var 1) (.bi .max (.fn2 0 (.bi (.bit .andNot .i64) (.bi .add (.bi .rem (.var 0) (.lit 23)) (.lit 2)) (.lit 1)) (.bi .add (.bi .rem (.var 2) (.lit 3)) (.lit 1))) (.lit 1))) (.lit 1))) (.bi .add (.bi .rem (.var 2) (.lit 3)) (.lit 1))), (.fn3 4 (.bi (.bit .andNot .i64) (.bi .add (.bi .rem (.var 0) (.lit 23)) (.lit 2)) (.lit 1)) (.un (.wrap .i64) (.bi .add (.bi .rem (.var 1) (.bi .max (.fn2 0 (.bi (.bit .andNot .i64) (.bi .add (.bi .rem (.var 0) (.lit 23)) (.lit 2)) (.lit 1)) (.bi .add (.bi .rem (.var 2) (.lit 3)) (.lit 1))) (.lit 1))) (.lit 1))) (.bi .add (.bi .rem (.var 2) (.lit 3)) (.lit 1))), (.fn3 5 (.bi (.bit .andNot .i64) (.bi .add (.bi .rem (.var 0) (.lit 23)) (.lit 2)) (.lit 1)) (.un (.wrap .i64) (.bi .add (.bi .rem (.var 1) (.bi .max (.fn2 0 (.bi (.bit .andNot .i64) (.bi .add (.bi .rem (.var 0) (.lit 23)) (.lit 2)) (.lit 1)) (.bi .add (.bi .rem (.var 2) (.lit 3)) (.lit 1))) (.lit 1))) (.lit 1))) (.bi .add (.bi .rem (.var 2) (.lit 3)) (.lit 1))), (.fn3 6 (.bi (.bit .andNot .i64) (.bi .add (.bi .rem (.var 0) (.lit 23)) (.lit 2)) (.lit 1)) (.un (.wrap .i64) (.bi .add (.bi .rem (.var 1) (.bi .max (.fn2 0 (.bi (.bit .andNot .i64) (.bi .add (.bi .rem (.var 0) (.lit 23)) (.lit 2)) (.lit 1)) (.bi .add (.bi .rem (.var 2) (.lit 3)) (.lit 1))) (.lit 1))) (.lit 1))) (.bi .add (.bi .rem (.var 2) (.lit 3)) (.lit 1))), (.fn3 1 (.bi (.bit .andNot .i64) (.bi .add (.bi .rem (.var 0) (.lit 23)) (.lit 2)) (.lit 1)) (.un (.wrap .i64) (.bi .add (.bi .rem (.var 1) (.bi .max (.fn2 0 (.bi (.bit .andNot .i64) (.bi .add (.bi .rem (.var 0) (.lit 23)) (.lit 2)) (.lit 1)) (.bi .add (.bi .rem (.var 2) (.lit 3)) (.lit 1))) (.lit 1))) (.lit 1))) (.bi .add (.bi .rem (.var 2) (.lit 3)) (.lit 1))), (.bi .add (.bi .rem (.var 2) (.lit 3)) (.lit 1))]))
   (.ret [(.fn3 2 (.bi .add (.bi .rem (.var 0) (.lit 23)) (.lit 2)) (.un (.wrap .i64) (.bi .add (.bi .rem (.var 1) (.bi .max (.fn2 0 (.bi .add (.bi .rem (.var 0) (.lit 23)) (.lit 2)) (.bi .add (.bi .rem (.var 2) (.lit 3)) (.lit 1))) (.lit 1))) (.lit 1))) (.bi .add (.bi .rem (.var 2) (.lit 3)) (.lit 1))), (.fn3 3 (.bi .add (.bi .rem (.var 0) (.lit 23)) (.lit 2)) (.un (.wrap .i64) (.bi .add (.bi .rem (.var 1) (.bi .max (.fn2 0 (.bi .add (.bi .rem (.var 0) (.lit 23)) (.lit 2)) (.bi .add (.bi .rem (.var 2) (.lit 3)) (.lit 1))) (.lit 1))) (.lit 1))) (.bi .add (.bi .rem (.var 2) (.lit 3)) (.lit 1))), (.fn3 4 (.bi .add (.bi .rem (.var 0) (.lit 23)) (.lit 2)) (.un (.wrap .i64) (.bi .add (.bi .rem (.var 1) (.bi .max (.fn2 0 (.bi .add (.bi .rem (.var 0) (.lit 23)) (.lit 2)) (.bi .add (.bi .rem (.var 2) (.lit 3)) (.lit 1))) (.lit 1))) (.lit 1))) (.bi .add (.bi .rem (.var 2) (.lit 3)) (.lit 1))), (.fn3 5 (.bi .add (.bi .rem (.var 0) (.lit 23)) (.lit 2)) (.un (.wrap .i64) (.bi .add (.bi .rem (.var 1) (.bi .max (.fn2 0 (.bi .add (.bi .rem (.var 0) (.lit 23)) (.lit 2)) (.bi .add (.bi .rem (.var 2) (.lit 3)) (.lit 1))) (.lit 1))) (.lit 1))) (.bi .add (.bi .rem (.var 2) (.lit 3)) (.lit 1))), (.fn3 6 (.bi .add (.bi .rem (.var 0) (.lit 23)) (.lit 2)) (.un (.wrap .i64) (.bi .add (.bi .rem (.var 1) (.bi .max (.fn2 0 (.bi .add (.bi .rem (.var 0) (.lit 23)) (.lit 2)) (.bi .add (.bi .rem (.var 2) (.lit 3)) (.lit 1))) (.lit 1))) (.lit 1))) (.bi .add (.bi .rem (.var 2) (.lit 3)) (.lit 1))), (.fn3 1 (.bi .add (.bi .rem (.var 0) (.lit 23)) (.lit 2)) (.un (.wrap .i64) (.bi .add (.bi .rem (.var 1) (.bi .max (.fn2 0 (.bi .add (.bi .rem (.var 0) (.lit 23)) (.lit 2)) (.bi .add (.bi .rem (.var 2) (.lit 3)) (.lit 1))) (.lit 1))) (.lit 1))) (.bi .add (.bi .rem (.var 2) (.lit 3)) (.lit 1))), (.bi .add (.bi .rem (.var 2) (.lit 3)) (.lit 1))]))]
set_option maxRecDepth 100000 in
theorem sMade : tmsMade.map (summaryF (cx [cMost, cMake] []) 6000 0 tmsMade cMade.rt) = ssMade := by kernel_rfl

noncomputable def tmsCopies : List Tm := [entryTm Try.prog cCopies,
  ⟨⟨⟨17, tl 34 [(3, (.map 1)), (4, (.int .i64 (.var 2))), (10, (.slice 0 5 (.lit 0) (.un .len (.var 0)) none)), (11, (.int .i64 (.un .len (.var 0)))), (12, (.int .i64 (.var 3)))], [.at [0, 0, 1, 0, 1, 1, 1], .lp [0, 1, 0, 1, 1, 1], .blk 0, .at [1, 1, 1, 1]], [], none⟩, [], [(.rows true [(.int .i64), (.int .i64), (.int .i64), (.int .i64), (.int .i64)] (.var 0)), (.amap [(.int .i64), (.int .i64)] [(.int .i64)] true false (.var 1))]⟩, 4, [(.bi .le (.lit 0) (.var 2)), (.bi .le (.lit 0) (.var 3)), (.bi .le (.var 3) (.un .len (.var 0))), (.bi .le (.un .len (.var 0)) (.lit 5000))]⟩]
def ssCopies : List ST := [(.goto 1 [(.var 5), .nil, (.lit 0), (.lit 0)]),
  (.br (.bi .lt (.var 3) (.un .len (.var 0)))
   (.goto 1 [(.var 0), (.te .put (.var 1) (.bi .cons (.te .get (.var 0) (.var 3) (.lit 0)) (.bi .cons (.te .get (.var 0) (.var 3) (.lit 4)) .nil)) (.bi .cons (.te .get (.var 0) (.var 3) (.lit 0)) (.bi .cons (.te .get (.var 0) (.var 3) (.lit 4)) (.bi .cons (.un (.wrap .i64) (.bi .add (.te .get (.var 1) (.bi .find (.var 1) (.bi .cons (.te .get (.var 0) (.var 3) (.lit 0)) (.bi .cons (.te .get (.var 0) (.var 3) (.lit 4)) .nil))) (.lit 2)) (.lit 1))) .nil)))), (.bi .max (.var 2) (.te .get (.te .put (.var 1) (.bi .cons (.te .get (.var 0) (.var 3) (.lit 0)) (.bi .cons (.te .get (.var 0) (.var 3) (.lit 4)) .nil)) (.bi .cons (.te .get (.var 0) (.var 3) (.lit 0)) (.bi .cons (.te .get (.var 0) (.var 3) (.lit 4)) (.bi .cons (.un (.wrap .i64) (.bi .add (.te .get (.var 1) (.bi .find (.var 1) (.bi .cons (.te .get (.var 0) (.var 3) (.lit 0)) (.bi .cons (.te .get (.var 0) (.var 3) (.lit 4)) .nil))) (.lit 2)) (.lit 1))) .nil)))) (.bi .find (.te .put (.var 1) (.bi .cons (.te .get (.var 0) (.var 3) (.lit 0)) (.bi .cons (.te .get (.var 0) (.var 3) (.lit 4)) .nil)) (.bi .cons (.te .get (.var 0) (.var 3) (.lit 0)) (.bi .cons (.te .get (.var 0) (.var 3) (.lit 4)) (.bi .cons (.un (.wrap .i64) (.bi .add (.te .get (.var 1) (.bi .find (.var 1) (.bi .cons (.te .get (.var 0) (.var 3) (.lit 0)) (.bi .cons (.te .get (.var 0) (.var 3) (.lit 4)) .nil))) (.lit 2)) (.lit 1))) .nil)))) (.bi .cons (.te .get (.var 0) (.var 3) (.lit 0)) (.bi .cons (.te .get (.var 0) (.var 3) (.lit 4)) .nil))) (.lit 2))), (.bi .add (.var 3) (.lit 1))])
   (.ret [(.var 2)]))]
set_option maxRecDepth 100000 in
theorem sCopies : tmsCopies.map (summaryF (cx [] [17]) 6000 1 tmsCopies cCopies.rt) = ssCopies := by kernel_rfl

noncomputable def tmsSets : List Tm := [entryTm Try.prog cSets,
  ⟨⟨⟨29, tl 26 [(1, (.int .i64 (.var 1))), (5, (.slice 1 1 (.lit 0) (.un .len (.var 2)) none)), (9, (.slice 0 5 (.lit 0) (.un .len (.var 0)) none)), (10, (.int .i64 (.un .len (.var 0)))), (11, (.int .i64 (.var 3)))], [.at [0, 0, 1, 0, 1, 1], .lp [0, 1, 0, 1, 1], .blk 0, .at [1, 1, 1]], [], none⟩, [], [(.rows true [(.int .i64), (.int .i64), (.int .i64), (.int .i64), (.int .i64)] (.var 0)), (.rows false [(.int .i64)] (.var 2))]⟩, 4, [(.bi .le (.lit 0) (.var 3)), (.bi .le (.var 3) (.un .len (.var 0))), (.bi .le (.un .len (.var 0)) (.lit 5000))]⟩]
def ssSets : List ST := [(.goto 1 [(.var 5), (.var 6), .nil, (.lit 0)]),
  (.br (.bi .lt (.var 3) (.un .len (.var 0)))
   (.br (.bi .eq (.te .get (.var 0) (.var 3) (.lit 0)) (.var 1))
    (.need [(.bi .le (.bi .add (.un .len (.var 2)) (.lit 1)) (.lit 15637498706147))] (.goto 1 [(.var 0), (.var 1), (.bi .snoc (.var 2) (.bi .cons (.te .get (.var 0) (.var 3) (.lit 4)) .nil)), (.bi .add (.var 3) (.lit 1))]))
    (.goto 1 [(.var 0), (.var 1), (.var 2), (.bi .add (.var 3) (.lit 1))]))
   (.ret [(.var 2)]))]
set_option maxRecDepth 100000 in
theorem sSets : tmsSets.map (summaryF (cx [] [29]) 6000 1 tmsSets cSets.rt) = ssSets := by kernel_rfl

noncomputable def tmsEq1 : List Tm := [entryTm Try.prog cEq1,
  ⟨⟨⟨28, tl 26 [(0, (.slice 0 1 (.lit 0) (.un .len (.var 0)) none)), (1, (.slice 1 1 (.lit 0) (.un .len (.var 1)) none)), (12, (.int .i64 (.un .len (.var 0)))), (13, (.int .i64 (.var 2)))], [.at [0, 0, 1, 0, 1, 1], .lp [0, 1, 0, 1, 1], .blk 0, .at [1, 1, 1]], [], none⟩, [], [(.rows true [(.int .i64)] (.var 0)), (.rows true [(.int .i64)] (.var 1))]⟩, 3, [(.bi .le (.lit 0) (.var 2)), (.bi .le (.var 2) (.un .len (.var 0))), (.bi .eq (.un .len (.var 0)) (.un .len (.var 1))), (.bi .le (.un .len (.var 0)) (.lit 5000))]⟩]
def ssEq1 : List ST := [(.br (.un .not (.bi .eq (.un .len (.var 0)) (.un .len (.var 1))))
   (.ret [(.bl false)])
   (.goto 1 [(.var 0), (.var 1), (.lit 0)])),
  (.br (.bi .lt (.var 2) (.un .len (.var 0)))
   (.br (.un .not (.bi .eq (.te .get (.var 0) (.var 2) (.lit 0)) (.te .get (.var 1) (.var 2) (.lit 0))))
    (.ret [(.bl false)])
    (.goto 1 [(.var 0), (.var 1), (.bi .add (.var 2) (.lit 1))]))
   (.ret [(.bl true)]))]
set_option maxRecDepth 100000 in
theorem sEq1 : tmsEq1.map (summaryF (cx [] [28]) 6000 2 tmsEq1 cEq1.rt) = ssEq1 := by kernel_rfl

noncomputable def tmsLoads : List Tm := [entryTm Try.prog cLoads,
  ⟨⟨⟨21, tl 51 [(1, (.int .i64 (.var 6))), (2, (.ptr 1 (.lit 0) (.lit 0))), (5, (.slice 2 1 (.lit 0) (.var 2) (some (.var 2)))), (20, (.slice 0 5 (.lit 0) (.un .len (.var 5)) none)), (21, (.int .i64 (.un .len (.var 5)))), (22, (.int .i64 (.var 8)))], [.at [0, 0, 1, 0, 1, 1, 1], .lp [0, 1, 0, 1, 1, 1], .blk 0, .at [1, 1, 1, 1]], [], none⟩, [], [(.rows true [(.int .i64), (.int .i64), (.int .i64), (.int .i64), (.int .i64)] (.var 5)), (.cells false [(.int .i64 (.var 0)), (.int .i64 (.var 1)), (.int .i64 (.var 2)), (.int .i64 (.var 3)), (.int .i64 (.var 4)), (.slice 0 5 (.lit 0) (.un .len (.var 5)) none)]), (.rows false [(.int .i64)] (.var 7))]⟩, 9, [(.bi .eq (.un .len (.var 7)) (.var 2)), (.bi .le (.lit 0) (.var 8)), (.bi .le (.var 8) (.un .len (.var 5))), (.bi .le (.var 2) (.lit 4096)), (.bi .le (.lit 1) (.var 2)), (.bi .le (.un .len (.var 5)) (.lit 5000))]⟩]
def ssLoads : List ST := [(.br (.bi .lt (.var 2) (.lit 1))
   (.ret [.nil])
   (.br (.bi .lt (.lit 4096) (.var 2))
    (.ret [.nil])
    (.goto 1 [(.var 0), (.var 1), (.var 2), (.var 3), (.var 4), (.var 5), (.var 6), (.bi .rep (.var 2) (.bi .cons (.lit 0) .nil)), (.lit 0)]))),
  (.br (.bi .lt (.var 8) (.un .len (.var 5)))
   (.br (.bi .eq (.te .get (.var 5) (.var 8) (.lit 0)) (.var 6))
    (.br (.bi .le (.lit 0) (.te .get (.var 5) (.var 8) (.lit 4)))
     (.br (.bi .lt (.te .get (.var 5) (.var 8) (.lit 4)) (.var 2))
      (.goto 1 [(.var 0), (.var 1), (.var 2), (.var 3), (.var 4), (.var 5), (.var 6), (.se (.var 7) (.te .get (.var 5) (.var 8) (.lit 4)) (.lit 0) (.un (.wrap .i64) (.bi .add (.te .get (.var 7) (.te .get (.var 5) (.var 8) (.lit 4)) (.lit 0)) (.lit 1)))), (.bi .add (.var 8) (.lit 1))])
      (.goto 1 [(.var 0), (.var 1), (.var 2), (.var 3), (.var 4), (.var 5), (.var 6), (.var 7), (.bi .add (.var 8) (.lit 1))]))
     (.goto 1 [(.var 0), (.var 1), (.var 2), (.var 3), (.var 4), (.var 5), (.var 6), (.var 7), (.bi .add (.var 8) (.lit 1))]))
    (.goto 1 [(.var 0), (.var 1), (.var 2), (.var 3), (.var 4), (.var 5), (.var 6), (.var 7), (.bi .add (.var 8) (.lit 1))]))
   (.ret [(.var 7)]))]
set_option maxRecDepth 100000 in
theorem sLoads : tmsLoads.map (summaryF (cx [] [21]) 6000 1 tmsLoads cLoads.rt) = ssLoads := by kernel_rfl

noncomputable def tmsIdle : List Tm := [entryTm Try.prog cIdle,
  ⟨⟨⟨22, tl 25 [(5, (.slice 1 1 (.lit 0) (.un .len (.var 1)) none)), (10, (.slice 2 1 (.lit 0) (.un .len (.var 2)) none)), (11, (.int .i64 (.var 3))), (12, (.int .i64 (.var 4)))], [.at [0, 0, 1, 0, 1, 1], .lp [0, 1, 0, 1, 1], .blk 0, .at [1, 1, 1]], [], none⟩, [], [(.rows true [(.int .i64), (.int .i64), (.int .i64), (.int .i64), (.int .i64)] (.var 0)), (.rows false [(.int .i64)] (.var 1)), (.rows false [(.int .i64)] (.var 2))]⟩, 5, [(.bi .eq (.un .len (.var 2)) (.var 3)), (.bi .le (.un .len (.var 0)) (.lit 5000))]⟩]
def ssIdle : List ST := [(.goto 1 [(.var 5), .nil, (.fn3 10 (.var 2) (.var 5) (.var 6)), (.un .len (.fn3 10 (.var 2) (.var 5) (.var 6))), (.lit 0)]),
  (.br (.bi .lt (.var 4) (.var 3))
   (.need [(.bi .le (.lit 0) (.var 4))] (.br (.bi .eq (.te .get (.var 2) (.var 4) (.lit 0)) (.lit 0))
    (.need [(.bi .le (.bi .add (.un .len (.var 1)) (.lit 1)) (.lit 15637498706147))] (.goto 1 [(.var 0), (.bi .snoc (.var 1) (.bi .cons (.var 4) .nil)), (.var 2), (.var 3), (.un (.wrap .i64) (.bi .add (.var 4) (.lit 1)))]))
    (.goto 1 [(.var 0), (.var 1), (.var 2), (.var 3), (.un (.wrap .i64) (.bi .add (.var 4) (.lit 1)))])))
   (.ret [(.var 1)]))]
set_option maxRecDepth 100000 in
theorem sIdle : tmsIdle.map (summaryF (cx [cLoads] [22]) 6000 1 tmsIdle cIdle.rt) = ssIdle := by kernel_rfl

noncomputable def tmsSort2 : List Tm := [entryTm Try.prog cSort2,
  ⟨⟨⟨65, tl 53 [(0, (.slice 0 2 (.lit 0) (.un .len (.var 0)) none)), (1, (.int .i64 (.lit 0))), (2, (.int .i64 (.un .len (.var 0)))), (3, (.func 45 [])), (8, (.int .i64 (.lit 1)))], [.at [0, 0, 1], .lp [0, 1], .blk 0], [], none⟩, [⟨60, tl 148 [(0, (.slice 0 2 (.lit 0) (.un .len (.var 0)) none)), (1, (.int .i64 (.lit 0))), (2, (.int .i64 (.un .len (.var 0)))), (3, (.int .i64 (.un .len (.var 0)))), (4, (.func 45 [])), (10, (.bool (.bl true))), (11, (.bool (.bl true))), (12, (.int .i64 (.un .len (.var 0)))), (21, (.int .i64 (.un .len (.var 0)))), (22, (.int .i64 (.lit 0))), (23, (.int .i64 (.un .len (.var 0)))), (24, (.int .i64 (.un .len (.var 0)))), (25, (.bool (.bl true))), (26, (.slice 0 2 (.lit 0) (.un .len (.var 0)) none)), (27, (.int .i64 (.lit 0))), (28, (.int .i64 (.un .len (.var 0)))), (29, (.func 45 []))], [.reg [0, 0, 1, 0, 1, 0, 0, 0, 1, 1] 4, .at [1, 0, 1, 0, 1, 0, 0, 0, 1, 1], .at [1, 1, 0, 0, 0, 1, 1], .blk 1, .lp [0, 1, 1], .blk 0], [], none⟩, ⟨44, tl 14 [(0, (.slice 0 2 (.lit 0) (.un .len (.var 0)) none)), (1, (.func 45 [])), (4, (.int .i64 (.un .len (.var 0)))), (5, (.slice 0 2 (.lit 0) (.un .len (.var 0)) none)), (6, (.int .i64 (.un .len (.var 0)))), (7, (.slice 0 2 (.lit 0) (.un .len (.var 0)) none)), (8, (.int .i64 (.un .len (.var 0)))), (9, (.int .i64 (.un .len (.var 0)))), (10, (.int .u64 (.un .len (.var 0)))), (11, (.int .i64 (.un .len (.var 0)))), (12, (.func 45 []))], [.reg [1] 6], [], none⟩], [(.rows false [(.int .i64), (.int .i64)] (.var 0))]⟩, 1, [(.bi .le (.un .len (.var 0)) (.lit 1))]⟩,
  ⟨⟨⟨65, tl 53 [(0, (.slice 0 2 (.lit 0) (.un .len (.var 0)) none)), (1, (.int .i64 (.lit 0))), (2, (.int .i64 (.un .len (.var 0)))), (3, (.func 45 [])), (8, (.int .i64 (.lit 1))), (9, (.int .i64 (.lit 1)))], [.at [0, 0, 1, 0, 0, 1, 0, 0, 1], .lp [0, 1, 0, 0, 1, 0, 0, 1], .blk 2, .blk 1, .at [1, 1, 0, 0, 1], .lp [0, 1], .blk 0], [], none⟩, [⟨60, tl 148 [(0, (.slice 0 2 (.lit 0) (.un .len (.var 0)) none)), (1, (.int .i64 (.lit 0))), (2, (.int .i64 (.un .len (.var 0)))), (3, (.int .i64 (.un .len (.var 0)))), (4, (.func 45 [])), (10, (.bool (.bl true))), (11, (.bool (.bl true))), (12, (.int .i64 (.un .len (.var 0)))), (21, (.int .i64 (.un .len (.var 0)))), (22, (.int .i64 (.lit 0))), (23, (.int .i64 (.un .len (.var 0)))), (24, (.int .i64 (.un .len (.var 0)))), (25, (.bool (.bl true))), (26, (.slice 0 2 (.lit 0) (.un .len (.var 0)) none)), (27, (.int .i64 (.lit 0))), (28, (.int .i64 (.un .len (.var 0)))), (29, (.func 45 []))], [.reg [0, 0, 1, 0, 1, 0, 0, 0, 1, 1] 4, .at [1, 0, 1, 0, 1, 0, 0, 0, 1, 1], .at [1, 1, 0, 0, 0, 1, 1], .blk 1, .lp [0, 1, 1], .blk 0], [], none⟩, ⟨44, tl 14 [(0, (.slice 0 2 (.lit 0) (.un .len (.var 0)) none)), (1, (.func 45 [])), (4, (.int .i64 (.un .len (.var 0)))), (5, (.slice 0 2 (.lit 0) (.un .len (.var 0)) none)), (6, (.int .i64 (.un .len (.var 0)))), (7, (.slice 0 2 (.lit 0) (.un .len (.var 0)) none)), (8, (.int .i64 (.un .len (.var 0)))), (9, (.int .i64 (.un .len (.var 0)))), (10, (.int .u64 (.un .len (.var 0)))), (11, (.int .i64 (.un .len (.var 0)))), (12, (.func 45 []))], [.reg [1] 6], [], none⟩], [(.rows false [(.int .i64), (.int .i64)] (.var 0))]⟩, 1, []⟩]
def ssSort2 : List ST := [(.goto 1 [(.var 0)]),
  (.ret [(.var 0)]),
  (.need [(.bi .lt (.lit 1) (.un .len (.var 0))), (.bi .lt (.lit 1) (.un .len (.var 0))), (.bi .lt (.lit 0) (.un .len (.var 0))), (.bi .lt (.lit 0) (.un .len (.var 0)))] (.bad 202))]
set_option maxRecDepth 100000 in
theorem sSort2 : tmsSort2.map (summaryF (cx [cLen1] [65]) 6000 1 tmsSort2 cSort2.rt) = ssSort2 := by kernel_rfl

noncomputable def tmsCompact1 : List Tm := [entryTm Try.prog cCompact1]
def ssCompact1 : List ST := [(.ret [(.var 0), (.var 1)])]
set_option maxRecDepth 100000 in
theorem sCompact1 : tmsCompact1.map (summaryF (cx [] [50]) 6000 1 tmsCompact1 cCompact1.rt) = ssCompact1 := by kernel_rfl

noncomputable def tmsEq2 : List Tm := [entryTm Try.prog cEq2,
  ⟨⟨⟨30, tl 26 [(0, (.slice 0 2 (.lit 0) (.un .len (.var 0)) none)), (1, (.slice 1 2 (.lit 0) (.un .len (.var 1)) none)), (12, (.int .i64 (.un .len (.var 0)))), (13, (.int .i64 (.var 2)))], [.at [0, 0, 1, 0, 1, 1], .lp [0, 1, 0, 1, 1], .blk 0, .at [1, 1, 1]], [], none⟩, [], [(.rows true [(.int .i64), (.int .i64)] (.var 0)), (.rows true [(.int .i64), (.int .i64)] (.var 1))]⟩, 3, [(.bi .le (.lit 0) (.var 2)), (.bi .le (.var 2) (.un .len (.var 0))), (.bi .eq (.un .len (.var 0)) (.un .len (.var 1))), (.bi .le (.un .len (.var 0)) (.lit 5000))]⟩]
def ssEq2 : List ST := [(.br (.un .not (.bi .eq (.un .len (.var 0)) (.un .len (.var 1))))
   (.ret [(.bl false)])
   (.goto 1 [(.var 0), (.var 1), (.lit 0)])),
  (.br (.bi .lt (.var 2) (.un .len (.var 0)))
   (.br (.un .not (.bi .and (.bi .eq (.te .get (.var 0) (.var 2) (.lit 0)) (.te .get (.var 1) (.var 2) (.lit 0))) (.bi .eq (.te .get (.var 0) (.var 2) (.lit 1)) (.te .get (.var 1) (.var 2) (.lit 1)))))
    (.ret [(.bl false)])
    (.goto 1 [(.var 0), (.var 1), (.bi .add (.var 2) (.lit 1))]))
   (.ret [(.bl true)]))]
set_option maxRecDepth 100000 in
theorem sEq2 : tmsEq2.map (summaryF (cx [] [30]) 6000 2 tmsEq2 cEq2.rt) = ssEq2 := by kernel_rfl

noncomputable def tmsShared : List Tm := [entryTm Try.prog cShared,
  ⟨⟨⟨59, tl 67 [(0, (.yld 1)), (1, (.ptr 6 (.lit 0) (.lit 0))), (2, (.ptr 7 (.lit 0) (.lit 0))), (9, (.slice 0 5 (.lit 0) (.un .len (.var 5)) none)), (10, (.int .i64 (.un .len (.var 5)))), (11, (.int .i64 (.var 7)))], [.at [0, 0, 1], .lp [0, 1], .blk 0], [], none⟩, [⟨23, tl 19 [(0, (.agg [(.int .i64 (.var 0)), (.int .i64 (.var 1)), (.int .i64 (.var 2)), (.int .i64 (.var 3)), (.int .i64 (.var 4)), (.slice 0 5 (.lit 0) (.un .len (.var 5)) none)])), (1, (.int .i64 (.var 6))), (2, (.ptr 3 (.lit 0) (.lit 0))), (4, .nils), (5, (.ptr 4 (.lit 0) (.lit 0))), (7, (.agg [(.int .i64 (.var 0)), (.int .i64 (.var 1)), (.int .i64 (.var 2)), (.int .i64 (.var 3)), (.int .i64 (.var 4)), (.slice 0 5 (.lit 0) (.un .len (.var 5)) none)])), (8, (.int .i64 (.var 6))), (9, (.func 59 [(.ptr 6 (.lit 0) (.lit 0)), (.ptr 7 (.lit 0) (.lit 0))]))], [.rfn 1, .blk 0, .at [1, 1, 1]], [2], none⟩], [(.rows true [(.int .i64), (.int .i64), (.int .i64), (.int .i64), (.int .i64)] (.var 5)), (.loop ⟨23, tl 19 [(0, (.agg [(.int .i64 (.var 0)), (.int .i64 (.var 1)), (.int .i64 (.var 2)), (.int .i64 (.var 3)), (.int .i64 (.var 4)), (.slice 0 5 (.lit 0) (.un .len (.var 5)) none)])), (1, (.int .i64 (.var 6))), (2, (.ptr 3 (.lit 0) (.lit 0))), (3, (.tup [])), (4, .nils), (5, (.ptr 4 (.lit 0) (.lit 0))), (6, (.tup [])), (7, (.agg [(.int .i64 (.var 0)), (.int .i64 (.var 1)), (.int .i64 (.var 2)), (.int .i64 (.var 3)), (.int .i64 (.var 4)), (.slice 0 5 (.lit 0) (.un .len (.var 5)) none)])), (8, (.int .i64 (.var 6))), (9, (.func 59 [(.ptr 6 (.lit 0) (.lit 0)), (.ptr 7 (.lit 0) (.lit 0))])), (10, (.tup [])), (11, (.tup [])), (12, (.tup [])), (13, (.tup [])), (14, (.tup [])), (15, (.tup [])), (16, (.tup [])), (17, (.tup [])), (18, (.tup []))], [0, 1, 0, 1, 1], .ready, none, 2⟩), .defd, (.cells false [(.int .i64 (.var 0)), (.int .i64 (.var 1)), (.int .i64 (.var 2)), (.int .i64 (.var 3)), (.int .i64 (.var 4)), (.slice 0 5 (.lit 0) (.un .len (.var 5)) none)]), (.cells false [(.slice 5 2 (.lit 0) (.un .len (.var 8)) none)]), (.rows false [(.int .i64), (.int .i64)] (.var 8)), (.cells false [(.int .i64 (.var 0)), (.int .i64 (.var 1)), (.int .i64 (.var 2)), (.int .i64 (.var 3)), (.int .i64 (.var 4)), (.slice 0 5 (.lit 0) (.un .len (.var 5)) none)]), (.cells false [(.int .i64 (.var 6))])]⟩, 9, [(.bi .le (.lit 0) (.var 7)), (.bi .le (.var 7) (.un .len (.var 5))), (.bi .le (.un .len (.var 5)) (.lit 5000)), (.bi .le (.un .len (.fn2 16 (.var 5) (.var 6))) (.lit 1))]⟩,
  ⟨⟨⟨59, tl 67 [(0, (.yld 1)), (1, (.ptr 6 (.lit 0) (.lit 0))), (2, (.ptr 7 (.lit 0) (.lit 0))), (5, (.ptr 8 (.lit 0) (.lit 0))), (9, (.slice 0 5 (.lit 0) (.un .len (.var 5)) none)), (10, (.int .i64 (.un .len (.var 5)))), (11, (.int .i64 (.var 12))), (19, (.slice 0 5 (.lit 0) (.var 12) none)), (20, (.int .i64 (.var 12))), (21, (.int .i64 (.var 14)))], [.at [0, 0, 1, 1, 0, 0, 1, 1, 0, 0, 1], .lp [0, 1, 1, 0, 0, 1, 1, 0, 0, 1], .blk 2, .blk 1, .at [1, 1, 1, 0, 0, 1], .lp [0, 1], .blk 0], [], none⟩, [⟨23, tl 19 [(0, (.agg [(.int .i64 (.var 0)), (.int .i64 (.var 1)), (.int .i64 (.var 2)), (.int .i64 (.var 3)), (.int .i64 (.var 4)), (.slice 0 5 (.lit 0) (.un .len (.var 5)) none)])), (1, (.int .i64 (.var 6))), (2, (.ptr 3 (.lit 0) (.lit 0))), (4, .nils), (5, (.ptr 4 (.lit 0) (.lit 0))), (7, (.agg [(.int .i64 (.var 0)), (.int .i64 (.var 1)), (.int .i64 (.var 2)), (.int .i64 (.var 3)), (.int .i64 (.var 4)), (.slice 0 5 (.lit 0) (.un .len (.var 5)) none)])), (8, (.int .i64 (.var 6))), (9, (.func 59 [(.ptr 6 (.lit 0) (.lit 0)), (.ptr 7 (.lit 0) (.lit 0))]))], [.rfn 1, .blk 0, .at [1, 1, 1]], [2], none⟩], [(.rows true [(.int .i64), (.int .i64), (.int .i64), (.int .i64), (.int .i64)] (.var 5)), (.loop ⟨23, tl 19 [(0, (.agg [(.int .i64 (.var 0)), (.int .i64 (.var 1)), (.int .i64 (.var 2)), (.int .i64 (.var 3)), (.int .i64 (.var 4)), (.slice 0 5 (.lit 0) (.un .len (.var 5)) none)])), (1, (.int .i64 (.var 6))), (2, (.ptr 3 (.lit 0) (.lit 0))), (3, (.tup [])), (4, .nils), (5, (.ptr 4 (.lit 0) (.lit 0))), (6, (.tup [])), (7, (.agg [(.int .i64 (.var 0)), (.int .i64 (.var 1)), (.int .i64 (.var 2)), (.int .i64 (.var 3)), (.int .i64 (.var 4)), (.slice 0 5 (.lit 0) (.un .len (.var 5)) none)])), (8, (.int .i64 (.var 6))), (9, (.func 59 [(.ptr 6 (.lit 0) (.lit 0)), (.ptr 7 (.lit 0) (.lit 0))])), (10, (.tup [])), (11, (.tup [])), (12, (.tup [])), (13, (.tup [])), (14, (.tup [])), (15, (.tup [])), (16, (.tup [])), (17, (.tup [])), (18, (.tup []))], [0, 1, 0, 1, 1], .ready, none, 2⟩), .defd, (.cells false [(.int .i64 (.var 0)), (.int .i64 (.var 1)), (.int .i64 (.var 2)), (.int .i64 (.var 3)), (.int .i64 (.var 4)), (.slice 0 5 (.lit 0) (.un .len (.var 5)) none)]), (.cells false [(.slice 5 2 (.lit 0) (.un .len (.var 13)) none)]), (.rows false [(.int .i64), (.int .i64)] (.var 13)), (.cells false [(.int .i64 (.var 0)), (.int .i64 (.var 1)), (.int .i64 (.var 2)), (.int .i64 (.var 3)), (.int .i64 (.var 4)), (.slice 0 5 (.lit 0) (.un .len (.var 5)) none)]), (.cells false [(.int .i64 (.var 6))]), (.cells false [(.int .i64 (.var 7)), (.int .i64 (.var 8)), (.int .i64 (.var 9)), (.int .i64 (.var 10)), (.int .i64 (.var 11))])]⟩, 15, [(.bi .le (.lit 0) (.var 14)), (.bi .le (.var 14) (.var 12)), (.bi .lt (.var 12) (.un .len (.var 5))), (.bi .le (.un .len (.var 5)) (.lit 5000)), (.bi .le (.un .len (.fn2 16 (.var 5) (.var 6))) (.lit 1))]⟩]
def ssShared : List ST := [(.goto 1 [(.var 0), (.var 1), (.var 2), (.var 3), (.var 4), (.var 5), (.var 6), (.lit 0), .nil]),
  (.br (.bi .lt (.var 7) (.un .len (.var 5)))
   (.goto 2 [(.var 0), (.var 1), (.var 2), (.var 3), (.var 4), (.var 5), (.var 6), (.te .get (.var 5) (.var 7) (.lit 0)), (.te .get (.var 5) (.var 7) (.lit 1)), (.te .get (.var 5) (.var 7) (.lit 2)), (.te .get (.var 5) (.var 7) (.lit 3)), (.te .get (.var 5) (.var 7) (.lit 4)), (.var 7), (.var 8), (.lit 0)])
   (.need [(.bi .le (.un .len (.var 8)) (.lit 1))] (.ret [(.var 8)]))),
  (.br (.bi .lt (.var 14) (.var 12))
   (.br (.bi .eq (.var 7) (.var 6))
    (.br (.bi .eq (.te .get (.var 5) (.var 14) (.lit 0)) (.var 6))
     (.br (.bi .eq (.var 11) (.te .get (.var 5) (.var 14) (.lit 4)))
      (.br (.un .not (.bi .eq (.var 8) (.te .get (.var 5) (.var 14) (.lit 1))))
       (.need [(.bi .le (.bi .add (.un .len (.var 13)) (.lit 1)) (.lit 8278675785607))] (.goto 2 [(.var 0), (.var 1), (.var 2), (.var 3), (.var 4), (.var 5), (.var 6), (.var 7), (.var 8), (.var 9), (.var 10), (.var 11), (.var 12), (.bi .snoc (.var 13) (.bi .cons (.bi .min (.var 8) (.te .get (.var 5) (.var 14) (.lit 1))) (.bi .cons (.bi .max (.var 8) (.te .get (.var 5) (.var 14) (.lit 1))) .nil))), (.bi .add (.var 14) (.lit 1))]))
       (.goto 2 [(.var 0), (.var 1), (.var 2), (.var 3), (.var 4), (.var 5), (.var 6), (.var 7), (.var 8), (.var 9), (.var 10), (.var 11), (.var 12), (.var 13), (.bi .add (.var 14) (.lit 1))]))
      (.goto 2 [(.var 0), (.var 1), (.var 2), (.var 3), (.var 4), (.var 5), (.var 6), (.var 7), (.var 8), (.var 9), (.var 10), (.var 11), (.var 12), (.var 13), (.bi .add (.var 14) (.lit 1))]))
     (.goto 2 [(.var 0), (.var 1), (.var 2), (.var 3), (.var 4), (.var 5), (.var 6), (.var 7), (.var 8), (.var 9), (.var 10), (.var 11), (.var 12), (.var 13), (.bi .add (.var 14) (.lit 1))]))
    (.goto 2 [(.var 0), (.var 1), (.var 2), (.var 3), (.var 4), (.var 5), (.var 6), (.var 7), (.var 8), (.var 9), (.var 10), (.var 11), (.var 12), (.var 13), (.bi .add (.var 14) (.lit 1))]))
   (.goto 1 [(.var 0), (.var 1), (.var 2), (.var 3), (.var 4), (.var 5), (.var 6), (.bi .add (.var 12) (.lit 1)), (.var 13)]))]
set_option maxRecDepth 100000 in
theorem sShared : tmsShared.map (summaryF (cx [cSort2] [23, 59, 48]) 6000 1 tmsShared cShared.rt) = ssShared := by kernel_rfl

noncomputable def tmsFeeds : List Tm := [entryTm Try.prog cFeeds,
  ⟨⟨⟨24, tl 71 [(1, (.int .i64 (.var 6))), (2, (.int .i64 (.var 7))), (3, (.ptr 1 (.lit 0) (.lit 0))), (7, (.slice 2 1 (.lit 0) (.un .len (.var 9)) none)), (13, (.slice 0 5 (.lit 0) (.un .len (.var 5)) none)), (14, (.int .i64 (.un .len (.var 5)))), (15, (.int .i64 (.var 8)))], [.at [0, 0, 1, 0, 1, 1], .lp [0, 1, 0, 1, 1], .blk 0, .at [1, 1, 1]], [], none⟩, [], [(.rows true [(.int .i64), (.int .i64), (.int .i64), (.int .i64), (.int .i64)] (.var 5)), (.cells false [(.int .i64 (.var 0)), (.int .i64 (.var 1)), (.int .i64 (.var 2)), (.int .i64 (.var 3)), (.int .i64 (.var 4)), (.slice 0 5 (.lit 0) (.un .len (.var 5)) none)]), (.rows false [(.int .i64)] (.var 9))]⟩, 10, [(.bi .le (.lit 0) (.var 8)), (.bi .le (.var 8) (.un .len (.var 5))), (.bi .le (.un .len (.var 5)) (.lit 5000)), (.bi .le (.un .len (.fn3 13 (.var 5) (.var 6) (.var 7))) (.lit 1))]⟩,
  ⟨⟨⟨24, tl 71 [(1, (.int .i64 (.var 6))), (2, (.int .i64 (.var 7))), (3, (.ptr 1 (.lit 0) (.lit 0))), (7, (.slice 2 1 (.lit 0) (.un .len (.var 8)) none)), (9, (.ptr 3 (.lit 0) (.lit 0))), (13, (.slice 0 5 (.lit 0) (.un .len (.var 5)) none)), (14, (.int .i64 (.un .len (.var 5)))), (15, (.int .i64 (.var 15))), (30, (.slice 0 5 (.lit 0) (.un .len (.var 5)) none)), (31, (.int .i64 (.un .len (.var 5)))), (32, (.int .i64 (.var 9)))], [.at [0, 0, 1, 1, 1, 0, 0, 1, 1, 0, 0, 1, 0, 1, 1], .lp [0, 1, 1, 1, 0, 0, 1, 1, 0, 0, 1, 0, 1, 1], .blk 2, .blk 1, .at [1, 1, 1, 0, 0, 1, 0, 1, 1], .lp [0, 1, 0, 1, 1], .blk 0, .at [1, 1, 1]], [], none⟩, [], [(.rows true [(.int .i64), (.int .i64), (.int .i64), (.int .i64), (.int .i64)] (.var 5)), (.cells false [(.int .i64 (.var 0)), (.int .i64 (.var 1)), (.int .i64 (.var 2)), (.int .i64 (.var 3)), (.int .i64 (.var 4)), (.slice 0 5 (.lit 0) (.un .len (.var 5)) none)]), (.rows false [(.int .i64)] (.var 8)), (.cells false [(.int .i64 (.var 10)), (.int .i64 (.var 11)), (.int .i64 (.var 12)), (.int .i64 (.var 13)), (.int .i64 (.var 14))])]⟩, 16, [(.bi .le (.lit 0) (.var 9)), (.bi .le (.var 9) (.un .len (.var 5))), (.bi .le (.lit 0) (.var 15)), (.bi .eq (.te .get (.var 5) (.var 15) (.lit 1)) (.var 7)), (.bi .eq (.te .get (.var 5) (.var 15) (.lit 0)) (.var 6)), (.bi .lt (.var 15) (.un .len (.var 5))), (.bi .le (.un .len (.var 5)) (.lit 5000)), (.bi .le (.un .len (.fn3 13 (.var 5) (.var 6) (.var 7))) (.lit 1))]⟩]
def ssFeeds : List ST := [(.goto 1 [(.var 0), (.var 1), (.var 2), (.var 3), (.var 4), (.var 5), (.var 6), (.var 7), (.lit 0), .nil]),
  (.br (.bi .lt (.var 8) (.un .len (.var 5)))
   (.br (.un .not (.bi .eq (.te .get (.var 5) (.var 8) (.lit 0)) (.var 6)))
    (.goto 1 [(.var 0), (.var 1), (.var 2), (.var 3), (.var 4), (.var 5), (.var 6), (.var 7), (.bi .add (.var 8) (.lit 1)), (.var 9)])
    (.br (.un .not (.bi .eq (.te .get (.var 5) (.var 8) (.lit 1)) (.var 7)))
     (.goto 1 [(.var 0), (.var 1), (.var 2), (.var 3), (.var 4), (.var 5), (.var 6), (.var 7), (.bi .add (.var 8) (.lit 1)), (.var 9)])
     (.goto 2 [(.var 0), (.var 1), (.var 2), (.var 3), (.var 4), (.var 5), (.var 6), (.var 7), (.var 9), (.lit 0), (.te .get (.var 5) (.var 8) (.lit 0)), (.te .get (.var 5) (.var 8) (.lit 1)), (.te .get (.var 5) (.var 8) (.lit 2)), (.te .get (.var 5) (.var 8) (.lit 3)), (.te .get (.var 5) (.var 8) (.lit 4)), (.var 8)])))
   (.need [(.bi .le (.un .len (.var 9)) (.lit 1000000000))] (.need [(.bi .le (.un .len (.var 9)) (.lit 1)), (.bi .le (.un .len (.var 9)) (.un .len (.fn2 12 (.var 9) (.un .len (.var 9)))))] (.ret [(.fn2 12 (.var 9) (.un .len (.var 9))), (.un .len (.var 9))])))),
  (.br (.bi .lt (.var 9) (.un .len (.var 5)))
   (.br (.bi .lt (.te .get (.var 5) (.var 9) (.lit 0)) (.var 6))
    (.br (.bi .eq (.te .get (.var 5) (.var 9) (.lit 0)) (.un (.wrap .i64) (.bi .add (.var 6) (.lit (-1)))))
     (.br (.bi .eq (.te .get (.var 5) (.var 9) (.lit 4)) (.var 14))
      (.br (.un .not (.bi .eq (.te .get (.var 5) (.var 9) (.lit 1)) (.var 7)))
       (.need [(.bi .le (.bi .add (.un .len (.var 8)) (.lit 1)) (.lit 15637498706147))] (.goto 2 [(.var 0), (.var 1), (.var 2), (.var 3), (.var 4), (.var 5), (.var 6), (.var 7), (.bi .snoc (.var 8) (.bi .cons (.te .get (.var 5) (.var 9) (.lit 1)) .nil)), (.bi .add (.var 9) (.lit 1)), (.var 10), (.var 11), (.var 12), (.var 13), (.var 14), (.var 15)]))
       (.goto 2 [(.var 0), (.var 1), (.var 2), (.var 3), (.var 4), (.var 5), (.var 6), (.var 7), (.var 8), (.bi .add (.var 9) (.lit 1)), (.var 10), (.var 11), (.var 12), (.var 13), (.var 14), (.var 15)]))
      (.goto 2 [(.var 0), (.var 1), (.var 2), (.var 3), (.var 4), (.var 5), (.var 6), (.var 7), (.var 8), (.bi .add (.var 9) (.lit 1)), (.var 10), (.var 11), (.var 12), (.var 13), (.var 14), (.var 15)]))
     (.goto 2 [(.var 0), (.var 1), (.var 2), (.var 3), (.var 4), (.var 5), (.var 6), (.var 7), (.var 8), (.bi .add (.var 9) (.lit 1)), (.var 10), (.var 11), (.var 12), (.var 13), (.var 14), (.var 15)]))
    (.goto 2 [(.var 0), (.var 1), (.var 2), (.var 3), (.var 4), (.var 5), (.var 6), (.var 7), (.var 8), (.bi .add (.var 9) (.lit 1)), (.var 10), (.var 11), (.var 12), (.var 13), (.var 14), (.var 15)]))
   (.goto 1 [(.var 0), (.var 1), (.var 2), (.var 3), (.var 4), (.var 5), (.var 6), (.var 7), (.bi .add (.var 15) (.lit 1)), (.var 8)]))]
set_option maxRecDepth 100000 in
theorem sFeeds : tmsFeeds.map (summaryF (cx [cSort1, cCompact1] [24]) 6000 1 tmsFeeds cFeeds.rt) = ssFeeds := by kernel_rfl

end Go.Proofs.Ytiohgpifeamkhaa
