/- Chapter 26: the program's roots. -/
import Derived.Test.YtohelfcinfpmaaaC26Q
import Derived.Test.YtohelfcinfpmaaaC26Sr
namespace Go.Proofs.Ytohelfcinfpmaaa
open Go Go.Sx Go.Proofs.C26

/-- how many steps it takes to 1, if it comes there -/
def ordO (p w : Nat) : Nat → Nat → Nat → Option Nat
  | 0, _, _ => none
  | f + 1, x, n => if x = 1 then some n else ordO p w f (x * w % p) (n + 1)
theorem ordO_go (p w : Nat) : ∀ f x n k, ordO p w f x n = some k → ordGo p w f x n = k
  | 0, _, _, _, h => by simp [ordO] at h
  | f + 1, x, n, k, h => by
    simp only [ordO] at h
    simp only [ordGo]
    split at h
    · rename_i hx; rw [if_pos hx]; simpa using h
    · rename_i hx; rw [if_neg hx]; exact ordO_go p w f _ _ k h

/-- the way to the root, every step of it -/
def rootChk (p : Nat) : Nat → Nat → Bool
  | 0, _ => false
  | f + 1, w => match ordO p w p (w % p) 1 with
    | none => false
    | some k => if k = p - 1 then true else rootChk p f (w + 1)

theorem roots_there : ((List.range 1001).all fun p => decide (p < 3) || !primeN p || rootChk p 20 2) = true := by kernel_rfl

def powS (j : Nat) : ST :=
  .br (.var 3)
   (.goto (2 * j + 2) [(.var 0), (.un (.wrap .i64) (.bi .add (.var 1) (.lit 1))), (.bi .rem (.un (.wrap .i64) (.bi .mul (.var 2) (.lit ((j + 2 : Nat) : Int)))) (.var 0)), (.bl false)])
   (.br (.un .not (.bi .eq (.var 2) (.lit 1)))
    (.goto (2 * j + 2) [(.var 0), (.un (.wrap .i64) (.bi .add (.var 1) (.lit 1))), (.bi .rem (.un (.wrap .i64) (.bi .mul (.var 2) (.lit ((j + 2 : Nat) : Int)))) (.var 0)), (.bl false)])
    (.br (.bi .eq (.var 1) (.bi .add (.var 0) (.lit (-1))))
     (.ret [(.lit ((j + 2 : Nat) : Int)), (.lit 0)])
     (if j = 19 then .bad 400 else .goto (2 * j + 3) [(.var 0)])))

def presRoot : List E := [(.fn1 0 (.var 0)), (.bi .le (.var 0) (.lit 1000)), (.bi .le (.lit 3) (.var 0))]
theorem root_pows : ((List.range 20).all fun j => decide (ssRoot[2 * j + 2]? = some (powS j)) && decide (ssRoot[2 * j + 1]? = some (.goto (2 * j + 2) [(.var 0), (.lit 0), (.lit 1), (.bl true)])) &&
    decide ((tmsRoot.map Tm.pre).getD (2 * j + 2) [] = presRoot) && decide ((tmsRoot.map Tm.pre).getD (2 * j + 1) [] = presRoot)) = true := by kernel_rfl

theorem w64 {x : Int} (h1 : -9223372036854775808 ≤ x) (h2 : x ≤ 9223372036854775807) : IntKind.wrap .i64 x = x := wrap_fit (by simpa [IntKind.min, IntKind.signed, IntKind.bits] using h1) (by simpa [IntKind.max, IntKind.signed, IntKind.bits] using h2)

theorem presRoot_ok {p : Nat} (h3 : 3 ≤ p) (h4 : p ≤ 1000) (hp : primeN p = true) (l : List U) : Holds I26 ({ i := (p : Int) } :: l) presRoot := by
  simp only [presRoot, holds_cons_iff, E.den, BiO.den, List.getD_cons_zero, decide_eq_true_eq]
  exact ⟨hp, by omega, by omega, Holds.nil⟩

theorem mod_step {p w x : Nat} (hx : x ≤ 1000) (hw : w ≤ 21) : (IntKind.wrap .i64 ((x : Int) * (w : Int))).tmod (p : Int) = ((x * w % p : Nat) : Int) := by
  have h : x * w ≤ 1000 * 21 := Nat.mul_le_mul hx hw
  rw [← Int.natCast_mul, w64 (by omega) (by omega)]
  exact (Int.ofNat_tmod _ _).symm

/-- the powers of one number -/
theorem rPows {p j : Nat} (h3 : 3 ≤ p) (h4 : p ≤ 1000) (hp : primeN p = true) (hj : j < 20) {out : List U} {k : Nat}
    (hend : (k = p - 1 ∧ out = [{ i := ((j + 2 : Nat) : Int) }, { i := 0 }]) ∨ (k ≠ p - 1 ∧ j ≠ 19 ∧ Runs I26 (tmsRoot.map Tm.pre) ssRoot (2 * j + 3) [{ i := (p : Int) }] out)) :
    ∀ f x n : Nat, x < p → n + f ≤ 5000 → ordO p (j + 2) f x n = some k → Runs I26 (tmsRoot.map Tm.pre) ssRoot (2 * j + 2) [{ i := (p : Int) }, { i := (n : Int) }, { i := (x : Int) }, { b := false }] out
  | 0, x, n, _, _, h => by simp [ordO] at h
  | f + 1, x, n, hx, hn, h => by
    have hall := List.all_eq_true.1 root_pows j (List.mem_range.2 hj)
    simp only [Bool.and_eq_true, decide_eq_true_eq] at hall
    obtain ⟨⟨⟨hs, _⟩, hpr⟩, _⟩ := hall
    refine Runs.step hs (by rw [hpr]; exact presRoot_ok h3 h4 hp _) ?_
    simp only [powS, StOk, E.den, BiO.den, UnO.den, List.map_cons, List.map_nil, List.getD_cons_zero, List.getD_cons_succ, beq_iff_eq, beq_eq_false_iff_ne, Bool.not_eq_true', Bool.not_eq_false', Bool.false_eq_true, false_implies, true_and]
    simp only [ordO] at h
    intro _
    refine ⟨fun hne => ?_, fun he => ⟨fun hk => ?_, fun hk => ?_⟩⟩
    · rw [if_neg (by omega)] at h
      rw [w64 (by omega) (by omega), mod_step (by omega) (by omega)]
      have := rPows h3 h4 hp hj hend f (x * (j + 2) % p) (n + 1) (Nat.mod_lt _ (by omega)) (by omega) h
      exact this
    · rw [if_pos (by omega)] at h
      simp only [Option.some.injEq] at h
      subst h
      rcases hend with ⟨_, rfl⟩ | ⟨h1, _⟩
      · rfl
      · omega
    · rw [if_pos (by omega)] at h
      simp only [Option.some.injEq] at h
      subst h
      rcases hend with ⟨h1, _⟩ | ⟨h1, h2, h5⟩
      · omega
      · rw [if_neg h2]
        exact h5

theorem rRoots {p : Nat} (h3 : 3 ≤ p) (h4 : p ≤ 1000) (hp : primeN p = true) : ∀ f j : Nat, j + f = 20 → rootChk p f (j + 2) = true → Runs I26 (tmsRoot.map Tm.pre) ssRoot (2 * j + 1) [{ i := (p : Int) }] [{ i := (rootGo p f (j + 2) : Nat) }, { i := 0 }]
  | 0, j, _, h => by simp [rootChk] at h
  | f + 1, j, hf, h => by
    have hall := List.all_eq_true.1 root_pows j (List.mem_range.2 (by omega))
    simp only [Bool.and_eq_true, decide_eq_true_eq] at hall
    obtain ⟨⟨⟨hs2, hs⟩, hpr2⟩, hpr⟩ := hall
    refine Runs.step hs (by rw [hpr]; exact presRoot_ok h3 h4 hp _) ?_
    simp only [StOk, E.den, List.map_cons, List.map_nil, List.getD_cons_zero]
    refine Runs.step hs2 (by rw [hpr2]; exact presRoot_ok h3 h4 hp _) ?_
    simp only [powS, StOk, E.den, BiO.den, UnO.den, List.map_cons, List.map_nil, List.getD_cons_zero, List.getD_cons_succ, true_implies, Bool.true_eq_false, false_implies, and_true]
    have e1 : (IntKind.wrap .i64 ((1 : Int) * ((j + 2 : Nat) : Int))).tmod (p : Int) = (((j + 2) % p : Nat) : Int) := by
      have := mod_step (p := p) (w := j + 2) (x := 1) (by omega) (by omega)
      rw [Nat.one_mul] at this
      exact this
    rw [e1, w64 (by omega) (by omega)]
    simp only [rootChk] at h
    split at h
    · cases h
    · rename_i k hk
      have hgo := ordO_go _ _ _ _ _ _ hk
      refine rPows h3 h4 hp (by omega) (k := k) ?_ p ((j + 2) % p) 1 (Nat.mod_lt _ (by omega)) (by omega) hk
      split at h
      · rename_i he
        left
        refine ⟨he, ?_⟩
        rw [rootGo, ordN, hgo, if_pos he]
      · rename_i he
        right
        have hne : j ≠ 19 := by
          rintro rfl
          obtain rfl : f = 0 := by omega
          simp [rootChk] at h
        refine ⟨he, hne, ?_⟩
        rw [rootGo, ordN, hgo, if_neg he]
        exact rRoots h3 h4 hp f (j + 1) (by omega) h

theorem rootV_not {p : Int} (h : ¬ (3 ≤ p ∧ p ≤ 1000 ∧ primeN p.toNat = true)) : rootV p = 0 ∧ rootE p = 2 := by unfold rootV rootE; rw [if_neg h, if_neg h]; exact ⟨rfl, rfl⟩

theorem vRoot : cRoot.Valid (cx [cPrime] [18, 37]) I26 := by
  refine Ctr.valid_run resp26 (glIn _ _) (allOf (.cons (re vPrime) .nil)) (by decide) (by decide) (by kernel_rfl) rfl sRoot [.i] [.i, .i] (by decide) ?_
  intro ρ0 hρ hpre _
  obtain ⟨t, rfl⟩ := one_i hρ
  refine ⟨[{ i := rootV t }, { i := rootE t }], Runs.step rfl hpre ?_, rfl⟩
  simp only [StOk, E.den, BiO.den, UnO.den, List.map_cons, List.map_nil, List.getD_cons_zero, decide_eq_true_eq, decide_eq_false_iff_not]
  refine ⟨fun h => ?_, fun h => ⟨fun h2 => ?_, fun h2 => ⟨fun h3 => ?_, fun h3 => ?_⟩⟩⟩
  · rw [(rootV_not (by omega)).1, (rootV_not (by omega)).2]
  · rw [(rootV_not (by omega)).1, (rootV_not (by omega)).2]
  · have hn : primeN t.toNat = false := by simpa [I26] using h3
    rw [(rootV_not (by simp [hn])).1, (rootV_not (by simp [hn])).2]
  · have hy : primeN t.toNat = true := by simpa [I26] using h3
    obtain ⟨m, rfl⟩ := Int.eq_ofNat_of_zero_le (show 0 ≤ t by omega)
    have hy' : primeN m = true := by simpa using hy
    have hc := List.all_eq_true.1 roots_there m (List.mem_range.2 (by omega))
    rw [decide_eq_false (by omega : ¬ m < 3), hy'] at hc
    have := rRoots (p := m) (by omega) (by omega) hy' 20 0 rfl (by simpa using hc)
    have e1 : rootV (m : Int) = (rootN m : Nat) := by unfold rootV; rw [if_pos ⟨by omega, by omega, hy⟩]; rfl
    have e2 : rootE (m : Int) = 0 := by unfold rootE; rw [if_pos ⟨by omega, by omega, hy⟩]
    rw [e1, e2]
    exact this
end Go.Proofs.Ytohelfcinfpmaaa
