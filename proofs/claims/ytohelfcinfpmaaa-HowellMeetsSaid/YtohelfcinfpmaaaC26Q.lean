/- Chapter 26: primes of the reference; numbers of tables with a prime. -/
import Derived.Test.YtohelfcinfpmaaaC26P
namespace Go.Proofs.Ytohelfcinfpmaaa
open Go Go.Sx Go.Proofs.C26

def fullDiv (n : Nat) : Nat → Nat → Bool
  | 0, _ => true
  | f + 1, i => if i < n then (if n % i = 0 then false else fullDiv n f (i + 1)) else true

theorem full_prime : ((List.range 1001).all fun m => (if m < 2 then false else fullDiv m m 2) == primeN m) = true := by kernel_rfl

theorem rRPrime (n : Nat) (hn : n ≤ 1000) : ∀ f i : Nat, 2 ≤ i → i ≤ n → n ≤ i + f → Runs I26 (tmsRPrime.map Tm.pre) ssRPrime 1 [{ i := (n : Int) }, { i := (i : Int) }] [{ b := fullDiv n (f + 1) i }]
  | f, i, h2, hi, hf => by
    refine Runs.step rfl ?_ ?_
    · simp only [tmsRPrime, List.map_cons, List.getD_cons_zero, List.getD_cons_succ, holds_cons_iff, E.den, BiO.den, decide_eq_true_eq]
      refine ⟨?_, ?_, ?_, Holds.nil⟩ <;> omega
    · simp only [StOk, E.den, BiO.den, List.map_cons, List.map_nil, List.getD_cons_zero, List.getD_cons_succ, decide_eq_true_eq, decide_eq_false_iff_not, beq_iff_eq, beq_eq_false_iff_ne]
      have hm : ((n : Int).tmod (i : Int) = 0) ↔ n % i = 0 := by
        rw [← Int.ofNat_tmod]; omega
      refine ⟨fun h1 => ⟨fun h3 => ?_, fun h3 => ?_⟩, fun h1 => ?_⟩
      · rw [fullDiv, if_pos (by omega), if_pos (hm.1 h3)]
      · rw [fullDiv, if_pos (by omega), if_neg (fun e => h3 (hm.2 e))]
        cases f with
        | zero => omega
        | succ f => exact rRPrime n hn f (i + 1) (by omega) (by omega) (by omega)
      · rw [fullDiv, if_neg (by omega)]

theorem vRPrime : cRPrime.Valid (cx [] [35]) I26 := by
  refine Ctr.valid_run resp26 (glIn _ _) (fun c hc => by cases hc) (by decide) (by decide) (by kernel_rfl) rfl sRPrime [.i] [.b] (by decide) ?_
  intro ρ0 hρ hpre _
  obtain ⟨n, rfl⟩ := one_i hρ
  obtain ⟨h1, h2, _⟩ : 0 ≤ n ∧ n ≤ 1000 ∧ True := by simpa [cRPrime, cPrime, holds_cons_iff, holds_nil_iff, E.den, BiO.den] using hpre
  obtain ⟨m, rfl⟩ := Int.eq_ofNat_of_zero_le h1
  have hp := List.all_eq_true.1 full_prime m (List.mem_range.2 (by omega))
  simp only [beq_iff_eq] at hp
  refine ⟨[{ b := primeN m }], Runs.step rfl hpre ?_, rfl⟩
  simp only [StOk, E.den, BiO.den, List.map_cons, List.map_nil, List.getD_cons_zero, decide_eq_true_eq, decide_eq_false_iff_not]
  refine ⟨fun h => ?_, fun h => ?_⟩
  · rw [← hp, if_pos (by omega)]
  · rw [← hp, if_neg (by omega)]
    cases m with
    | zero => omega
    | succ m => exact rRPrime (m + 1) (by omega) m 2 (by omega) (by omega) (by omega)

/-- the numbers from 2 to 24 -/
theorem prime_cases {t : Int} (h1 : 2 ≤ t) (h2 : t ≤ 24) : ∃ m : Nat, t = (m : Int) ∧ 2 ≤ m ∧ m ≤ 24 := ⟨t.toNat, by omega, by omega, by omega⟩

theorem primeT_run : ((List.range 25).all fun m => decide (m < 2) || decide (goN I26 (tmsPrimeT.map Tm.pre) ssPrimeT 40 0 [{ i := (m : Int) }] = some [{ i := primeV m }, { b := hasP m }])) = true := by kernel_rfl
theorem rprimeT_run : ((List.range 25).all fun m => decide (m < 2) || decide (goN I26 (tmsRPrimeT.map Tm.pre) ssRPrimeT 40 0 [{ i := (m : Int) }] = some [{ i := primeV m }, { b := hasP m }])) = true := by kernel_rfl

theorem hasP_far {t : Int} (h : t < 2 ∨ 24 < t) : hasP t = false := by
  unfold hasP
  rw [show decide (2 ≤ t ∧ t ≤ 24) = false from decide_eq_false (by omega)]
  rfl
theorem primeV_far {t : Int} (h : t < 2 ∨ 24 < t) : primeV t = 0 := by unfold primeV; rw [hasP_far h]; rfl

theorem vPrimeT : cPrimeT.Valid (cx [cPrime] []) I26 := by
  refine Ctr.valid_run resp26 (glIn _ _) (allOf (.cons (re vPrime) .nil)) (by decide) (by decide) (by kernel_rfl) rfl sPrimeT [.i] [.i, .b] (by decide) ?_
  intro ρ0 hρ hpre _
  obtain ⟨t, rfl⟩ := one_i hρ
  refine ⟨[{ i := primeV t }, { b := hasP t }], ?_, rfl⟩
  by_cases h : 2 ≤ t ∧ t ≤ 24
  · obtain ⟨m, rfl, h2, h3⟩ := prime_cases h.1 h.2
    have := List.all_eq_true.1 primeT_run m (List.mem_range.2 (by omega))
    rw [decide_eq_false (by omega : ¬ m < 2), Bool.false_or] at this
    exact runs_of this
  · rw [primeV_far (by omega), hasP_far (by omega)]
    refine Runs.step rfl hpre ?_
    simp only [StOk, E.den, BiO.den, UnO.den, List.map_cons, List.map_nil, List.getD_cons_zero, decide_eq_true_eq, decide_eq_false_iff_not]
    exact ⟨fun _ => trivial, fun h1 => ⟨fun _ => trivial, fun h2 => by omega⟩⟩

theorem vRPrimeT : cRPrimeT.Valid (cx [cRPrime] [22]) I26 := by
  refine Ctr.valid_run resp26 (glIn _ _) (allOf (.cons (re vRPrime) .nil)) (by decide) (by decide) (by kernel_rfl) rfl sRPrimeT [.i] [.i, .b] (by decide) ?_
  intro ρ0 hρ hpre _
  obtain ⟨t, rfl⟩ := one_i hρ
  refine ⟨[{ i := primeV t }, { b := hasP t }], ?_, rfl⟩
  by_cases h : 2 ≤ t ∧ t ≤ 24
  · obtain ⟨m, rfl, h2, h3⟩ := prime_cases h.1 h.2
    have := List.all_eq_true.1 rprimeT_run m (List.mem_range.2 (by omega))
    rw [decide_eq_false (by omega : ¬ m < 2), Bool.false_or] at this
    exact runs_of this
  · rw [primeV_far (by omega), hasP_far (by omega)]
    refine Runs.step rfl hpre ?_
    simp only [StOk, E.den, BiO.den, UnO.den, List.map_cons, List.map_nil, List.getD_cons_zero, decide_eq_true_eq, decide_eq_false_iff_not]
    exact ⟨fun _ => trivial, fun h1 => ⟨fun _ => trivial, fun h2 => by omega⟩⟩

end Go.Proofs.Ytohelfcinfpmaaa
