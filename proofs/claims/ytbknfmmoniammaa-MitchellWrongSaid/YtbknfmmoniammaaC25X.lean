/- Chapter 25: the examples of the chapter. -/
import Derived.Test.YtbknfmmoniammaaC25W
import Derived.Test.YtbknfmmoniammaaC25Ta
namespace Go.Proofs.Ytbknfmmoniammaa
open Go Go.Sx Go.Proofs.C25

/-! ### the same, for the kernel to reckon with -/
def srtAllK (A : List (List Int)) : List (List Int) := ones (putAll (nums A)) ++ List.replicate (A.length - (putAll (nums A)).length) [0]
def srtLenK (A : List (List Int)) : Int := (putAll (nums A)).length
theorem srtAllK_eq : srtAll = srtAllK := by funext A; unfold srtAll srtAllK; rw [sortU_putAll]
theorem srtLenK_eq : srtLen = srtLenK := by funext A; unfold srtLen srtLenK; rw [sortU_putAll]
noncomputable def K25 : Itp where
  f1 := fun f u => match f with
    | 0 => { l := srtAllK u.l }
    | 1 => { i := srtLenK u.l }
    | 2 => { l := srtAllK (seats u.l) }
    | 3 => { i := srtLenK (seats u.l) }
    | 4 => { l := pairsL u.l }
    | _ => {}
  f2 := fun f u v => match f with
    | 0 => { i := mostV u.i v.i }
    | 1 => { i := wayE u.i v.i }
    | 2 => { i := roverE u.i v.i }
    | 3 => { l := roverR u.i v.i }
    | 10 => { b := eqR 5 u.l v.l }
    | 11 => { i := u.i % v.i }
    | 12 => { l := sortPre u.l v.i.toNat }
    | 13 => { l := lessR u.l v.i }
    | 14 => { i := lessE u.l v.i }
    | 15 => { l := srtAllK (outOf u.l v.i) }
    | 16 => { i := srtLenK (outOf u.l v.i) }
    | 17 => { b := fairP u.r v.l }
    | 18 => { l := putL u.l v.i }
    | 19 => { l := outL u.l v.i }
    | f => { i := roverF (f - 5) u.i v.i }
  f3 := I25.f3
  f4 := I25.f4
theorem K25_eq : I25 = K25 := by
  unfold I25 K25
  rw [srtAllK_eq, srtLenK_eq]
  rfl

theorem vAw : cAw.Valid (cx [] []) I25 := by
  refine reA (Ctr.valid_run (C := cxA [cMost, cMake, cWithout, cOut, cRover] []) resp25 (by intro g h hh; cases hh) ?_ (by decide) (by decide) (by kernel_rfl) rfl sAw [] [.b] (by decide) ?_)
  · intro c hc
    have := allOf (fs := []) (.cons vMost (.cons vMake (.cons vWithout (.cons vOut (.cons vRover .nil))))) c hc
    exact ⟨this.has, this.wf, this.run⟩
  · intro ρ0 hρ hpre _
    obtain rfl : ρ0 = [] := hρ
    refine ⟨[{ b := true }], ?_, rfl⟩
    rw [K25_eq]
    exact runs_of (k := 8) (by kernel_rfl)
end Go.Proofs.Ytbknfmmoniammaa
