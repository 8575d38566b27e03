/- Chapter 26: primes and roots: the contracts hold. -/
import Derived.Test.YtohelfcinfpmaaaC26S
namespace Go.Proofs.Ytohelfcinfpmaaa
open Go Go.Sx Go.Proofs.C26

/-- contracts, all of them valid -/
inductive AllV : List Ctr → Prop where
  | nil : AllV []
  | cons {c : Ctr} {cs : List Ctr} : c.Valid (cx [] []) I26 → AllV cs → AllV (c :: cs)
theorem allOf {cs : List Ctr} {fs : List Nat} (h : AllV cs) : ∀ c ∈ (cx cs fs).ctrs, c.Valid (cx cs fs) I26 := by
  have : ∀ c ∈ cs, c.Valid (cx [] []) I26 := by
    induction h with
    | nil => intro c hc; cases hc
    | cons h1 _ ih =>
      intro c hc
      rcases List.mem_cons.1 hc with rfl | hc
      · exact h1
      · exact ih c hc
  exact fun c hc => re (this c hc)

theorem one_i {ρ0 : List U} (h : ρ0 = normU [.i] ρ0) : ∃ n : Int, ρ0 = [{ i := n }] := ⟨_, h⟩

/-- a contract's run, looked at value by value -/
theorem runs_of {I : Itp} {pres : List (List E)} {sums : List ST} {k j : Nat} {ρ out : List U} (h : decide (goN I pres sums k j ρ = some out) = true) : Runs I pres sums j ρ out := ⟨k, of_decide_eq_true h⟩

theorem primes_run : ((List.range 1001).all fun m => decide (goN I26 (tmsPrime.map Tm.pre) ssPrime 40 0 [{ i := (m : Int) }] = some [{ b := primeN m }])) = true := by kernel_rfl

theorem vPrime : cPrime.Valid (cx [] [26]) I26 := by
  refine Ctr.valid_run resp26 (glIn _ _) (fun c hc => by cases hc) (by decide) (by decide) (by kernel_rfl) rfl sPrime [.i] [.b] (by decide) ?_
  intro ρ0 hρ hpre _
  obtain ⟨n, rfl⟩ := one_i hρ
  obtain ⟨h1, h2, _⟩ : 0 ≤ n ∧ n ≤ 1000 ∧ True := by simpa [cPrime, holds_cons_iff, holds_nil_iff, E.den, BiO.den] using hpre
  obtain ⟨m, rfl⟩ := Int.eq_ofNat_of_zero_le h1
  exact ⟨_, runs_of (List.all_eq_true.1 primes_run m (List.mem_range.2 (by omega))), rfl⟩
end Go.Proofs.Ytohelfcinfpmaaa
