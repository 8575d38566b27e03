/- Chapter 26: the examples of the chapter; HowellTells. -/
import Derived.Test.YtohelfcinfpmaaaC26Y
import Derived.Test.YtohelfcinfpmaaaC26Sw
namespace Go.Proofs.Ytohelfcinfpmaaa
open Go Go.Sx Go.Proofs.C26

theorem aw_run : decide (goN I26 (tmsKAw.map Tm.pre) ssKAw 40 0 [] = some [{ b := true }]) = true := by kernel_rfl

theorem allA {cs : List Ctr} {fs : List Nat} (h : AllV cs) : ∀ c ∈ (cxA cs fs).ctrs, c.Valid (cxA cs fs) I26 := fun c hc => by
  have h1 := allOf (fs := fs) h c hc
  exact ⟨h1.has, h1.wf, h1.run⟩
theorem vKAwA : cKAw.Valid (cxA [cPrimeT, cRoot, cStart, cCheck, cKEq2, cMake] [10]) I26 := by
  refine Ctr.valid_run resp26 (fun g h hh => by cases hh) (allA (.cons (re vPrimeT) (.cons (re vRoot) (.cons (re vStart) (.cons (re vCheck) (.cons (re vKEq2) (.cons (re vMake) .nil))))))) (by decide) (by decide) (by kernel_rfl) rfl sKAw [] [.b] (by decide) ?_
  intro ρ0 hρ hpre _
  obtain rfl : ρ0 = [] := hρ
  exact ⟨[{ b := true }], runs_of aw_run, rfl⟩
theorem vKAw : cKAw.Valid (cx [] []) I26 := ⟨vKAwA.has, vKAwA.wf, vKAwA.run⟩

theorem three_iii {ρ0 : List U} (h : ρ0 = normU [.i, .i, .i] ρ0) : ∃ a b c : Int, ρ0 = [{ i := a }, { i := b }, { i := c }] := ⟨_, _, _, h⟩

theorem vKTells : cKTells.Valid (cx [cPrimeT, cRPrimeT, cRoot, cRRoot, cStart, cRStart, cMake, cRMake, cKEq2, cKSame] []) I26 := by
  refine Ctr.valid_run resp26 (glIn _ _) (allOf (.cons (re vPrimeT) (.cons (re vRPrimeT) (.cons (re vRoot) (.cons (re vRRoot) (.cons (re vStart) (.cons (re vRStart) (.cons (re vMake) (.cons (re vRMake) (.cons (re vKEq2) (.cons (re vKSame) .nil))))))))))) (by decide) (by decide) (by kernel_rfl) rfl sKTells [.i, .i, .i] [.b] (by decide) ?_
  intro ρ0 hρ hpre _
  obtain ⟨t, k, p, rfl⟩ := three_iii hρ
  refine ⟨[{ b := true }], Runs.step rfl hpre ?_, rfl⟩
  have h1 := startL_len t
  have h2 := makeR_len t k
  simp only [StOk, E.den, BiO.den, UnO.den, I26, List.map_cons, List.map_nil, List.getD_cons_zero, List.getD_cons_succ, decide_eq_true_eq, beq_self_eq_true, holds_cons_iff, holds_nil_iff]
  exact ⟨fun _ => ⟨⟨by omega, eqR_refl _ _, trivial⟩, fun _ => ⟨⟨by omega, eqR_refl _ _, trivial⟩, fun _ => trivial⟩⟩, fun h => by cases h⟩

theorem vTells : cLTells.Valid (cx [cKTells, cKAw] []) I26 := by
  refine Ctr.valid_run resp26 (glIn _ _) (allOf (.cons (re vKTells) (.cons (re vKAw) .nil))) (by decide) (by decide) (by kernel_rfl) rfl sLTells [.i, .i, .i] [] (by decide) ?_
  intro ρ0 hρ hpre _
  exact ⟨[], Runs.step rfl hpre rfl, rfl⟩
end Go.Proofs.Ytohelfcinfpmaaa
