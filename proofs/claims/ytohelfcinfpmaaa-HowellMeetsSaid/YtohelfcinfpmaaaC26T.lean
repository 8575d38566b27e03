/- Chapter 26: the reference's roots. -/
import Derived.Test.YtohelfcinfpmaaaC26R
namespace Go.Proofs.Ytohelfcinfpmaaa
open Go Go.Sx Go.Proofs.C26

/-- a row of truth values as a mask -/
def bitsL (n m : Nat) : List (List Int) := (List.range n).map fun i => [if m.testBit i then (1 : Int) else 0]
theorem bitsL_len (n m : Nat) : (bitsL n m).length = n := by simp [bitsL]
theorem bitsL_get {n m y : Nat} (h : y < n) : ((bitsL n m).getD y []).getD 0 0 = if m.testBit y then 1 else 0 := by
  simp [bitsL, List.getD_eq_getElem?_getD, h]
theorem bitsL_set {n m y : Nat} (h : y < n) : setAt (bitsL n m) y 0 1 = bitsL n (m ||| 1 <<< y) := by
  unfold setAt
  apply List.ext_getElem?
  intro i
  rw [List.getElem?_set]
  have hl := bitsL_len n m
  by_cases hi : y = i
  · subst hi
    rw [if_pos rfl, if_pos (by omega)]
    simp [bitsL, List.getD_eq_getElem?_getD, h, Nat.testBit_or, Nat.testBit_shiftLeft]
  · rw [if_neg hi]
    by_cases hn : i < n
    · simp only [bitsL, List.getElem?_map, List.getElem?_range hn, Option.map_some, Nat.testBit_or]
      have : (1 <<< y).testBit i = false := by
        rw [Nat.testBit_shiftLeft]
        by_cases hy : y ≤ i
        · have : i - y ≠ 0 := by omega
          rw [decide_eq_true hy, Bool.true_and]
          obtain ⟨d, hd⟩ : ∃ d, i - y = d + 1 := ⟨i - y - 1, by omega⟩
          rw [hd, Nat.testBit_succ]
          simp
        · simp [hy]
      rw [this, Bool.or_false]
    · rw [List.getElem?_eq_none (by simp [bitsL]; omega), List.getElem?_eq_none (by simp [bitsL]; omega)]
theorem bitsL_zero (n : Nat) : List.replicate n [(0 : Int)] = bitsL n 0 := by
  apply List.ext_getElem?
  intro i
  by_cases hn : i < n
  · simp [bitsL, hn]
  · rw [List.getElem?_eq_none (by simp; omega), List.getElem?_eq_none (by simp [bitsL]; omega)]

/-- how many different numbers the powers are -/
def distGo (p w : Nat) : Nat → Nat → Nat → Nat → Nat
  | 0, _, many, _ => many
  | f + 1, mask, many, x => let y := x * w % p; distGo p w f (mask ||| 1 <<< y) (if mask.testBit y then many else many + 1) y
def rootD (p : Nat) : Nat → Nat → Option Nat
  | 0, _ => none
  | f + 1, w => if distGo p w (p - 1) 0 0 1 = p - 1 then some w else rootD p f (w + 1)
theorem rootsD_there : ((List.range 1001).all fun p => decide (p < 3) || !primeN p || decide (rootD p 20 2 = some (rootN p))) = true := by kernel_rfl

theorem presRoot_rows {p : Nat} (_ : 3 ≤ p) (_ : p ≤ 1000) (hp : primeN p = true) : (I26.f1 0 { i := (p : Int) }).b = true := hp

/-- the reference's row of powers -/
theorem rSeen {p w : Nat} (h3 : 3 ≤ p) (h4 : p ≤ 1000) (hp : primeN p = true) (hw : w ≤ 21) {out : List U} {k : Nat}
    (hend : (k = p - 1 ∧ out = [{ i := (w : Int) }, { i := 0 }]) ∨ (k ≠ p - 1 ∧ Runs I26 (tmsRRoot.map Tm.pre) ssRRoot 1 [{ i := (p : Int) }, { i := ((w + 1 : Nat) : Int) }] out)) :
    ∀ f i mask many x : Nat, i + f = p → 1 ≤ i → x < p → many ≤ i → distGo p w f mask many x = k →
      Runs I26 (tmsRRoot.map Tm.pre) ssRRoot 2 [{ i := (p : Int) }, { l := bitsL p mask }, { i := (many : Int) }, { i := (x : Int) }, { i := (i : Int) }, { i := (w : Int) }] out
  | f, i, mask, many, x, hi, h1, hx, hm, hk => by
    refine Runs.step rfl ?_ ?_
    · simp only [tmsRRoot, List.map_cons, List.getD_cons_zero, List.getD_cons_succ, holds_cons_iff, E.den, BiO.den, UnO.den, decide_eq_true_eq, bitsL_len]
      refine ⟨?_, ?_, ?_, ?_, ?_, hp, ?_, ?_, Holds.nil⟩ <;> first | omega | (simp only [beq_iff_eq]) | rfl
    · simp only [StOk, E.den, BiO.den, UnO.den, TeO.den, List.map_cons, List.map_nil, List.getD_cons_zero, List.getD_cons_succ, decide_eq_true_eq, decide_eq_false_iff_not, beq_iff_eq, beq_eq_false_iff_ne, Bool.not_eq_true', Bool.not_eq_false', holds_cons_iff, holds_nil_iff]
      rw [mod_step (by omega) (by omega)]
      have hy : x * w % p < p := Nat.mod_lt _ (by omega)
      have hg := bitsL_get (n := p) (m := mask) hy
      refine ⟨fun hlt => ⟨⟨by omega, by omega, trivial⟩, fun _ => ?_⟩, fun hge => ?_⟩
      · cases f with
        | zero => omega
        | succ f =>
          simp only [distGo] at hk
          simp only [Int.toNat_natCast, Int.toNat_zero, bitsL_set hy, hg]
          refine ⟨fun h0 => ?_, fun h0 => ?_⟩
          · have hb : mask.testBit (x * w % p) = false := by
              cases hb : mask.testBit (x * w % p) with
              | false => rfl
              | true => rw [hb] at h0; simp at h0
            rw [hb] at hk
            rw [w64 (by omega) (by omega)]
            exact rSeen h3 h4 hp hw hend f (i + 1) _ (many + 1) _ (by omega) (by omega) hy (by omega) hk
          · have hb : mask.testBit (x * w % p) = true := by
              cases hb : mask.testBit (x * w % p) with
              | true => rfl
              | false => rw [hb] at h0; simp at h0
            rw [hb] at hk
            exact rSeen h3 h4 hp hw hend f (i + 1) _ many _ (by omega) (by omega) hy (by omega) hk
      · obtain rfl : f = 0 := by omega
        simp only [distGo] at hk
        subst hk
        refine ⟨fun he => ?_, fun he => ?_⟩
        · rcases hend with ⟨_, rfl⟩ | ⟨hne, _⟩
          · rfl
          · omega
        · rcases hend with ⟨he', _⟩ | ⟨_, hr⟩
          · omega
          · rw [w64 (by omega) (by omega)]
            exact hr

theorem rRRoots {p : Nat} (h3 : 3 ≤ p) (h4 : p ≤ 1000) (hp : primeN p = true) {v : Nat} : ∀ f w : Nat, w + f = 22 → rootD p f w = some v → Runs I26 (tmsRRoot.map Tm.pre) ssRRoot 1 [{ i := (p : Int) }, { i := (w : Int) }] [{ i := (v : Int) }, { i := 0 }]
  | 0, w, _, h => by simp [rootD] at h
  | f + 1, w, hf, h => by
    refine Runs.step rfl ?_ ?_
    · simp only [tmsRRoot, List.map_cons, List.getD_cons_zero, List.getD_cons_succ, holds_cons_iff, E.den, BiO.den, decide_eq_true_eq]
      exact ⟨hp, by omega, by omega, Holds.nil⟩
    · simp only [StOk, E.den, BiO.den, List.map_cons, List.map_nil, List.getD_cons_zero, List.getD_cons_succ, Int.toNat_natCast, bitsL_zero]
      simp only [rootD] at h
      refine rSeen h3 h4 hp (by omega) (k := distGo p w (p - 1) 0 0 1) ?_ (p - 1) 1 0 0 1 (by omega) (by omega) (by omega) (by omega) rfl
      split at h
      · rename_i he
        simp only [Option.some.injEq] at h
        subst h
        exact .inl ⟨he, rfl⟩
      · rename_i he
        exact .inr ⟨he, rRRoots h3 h4 hp f (w + 1) (by omega) h⟩

theorem vRRoot : cRRoot.Valid (cx [cRPrime] [23]) I26 := by
  refine Ctr.valid_run resp26 (glIn _ _) (allOf (.cons (re vRPrime) .nil)) (by decide) (by decide) (by kernel_rfl) rfl sRRoot [.i] [.i, .i] (by decide) ?_
  intro ρ0 hρ hpre _
  obtain ⟨t, rfl⟩ := one_i hρ
  refine ⟨[{ i := rootV t }, { i := rootE t }], Runs.step rfl hpre ?_, rfl⟩
  simp only [StOk, E.den, BiO.den, UnO.den, List.map_cons, List.map_nil, List.getD_cons_zero, decide_eq_true_eq, decide_eq_false_iff_not, Bool.not_eq_true', Bool.not_eq_false']
  refine ⟨fun h => ?_, fun h => ⟨fun h2 => ?_, fun h2 => ⟨fun h3 => ?_, fun h3 => ?_⟩⟩⟩
  · rw [(rootV_not (by omega)).1, (rootV_not (by omega)).2]
  · rw [(rootV_not (by omega)).1, (rootV_not (by omega)).2]
  · have hn : primeN t.toNat = false := by simpa [I26] using h3
    rw [(rootV_not (by simp [hn])).1, (rootV_not (by simp [hn])).2]
  · have hy : primeN t.toNat = true := by simpa [I26] using h3
    obtain ⟨m, rfl⟩ := Int.eq_ofNat_of_zero_le (show 0 ≤ t by omega)
    have hy' : primeN m = true := by simpa using hy
    have hc := List.all_eq_true.1 rootsD_there m (List.mem_range.2 (by omega))
    rw [decide_eq_false (by omega : ¬ m < 3), hy'] at hc
    have := rRRoots (p := m) (v := rootN m) (by omega) (by omega) hy' 20 2 rfl (by simpa using hc)
    have e1 : rootV (m : Int) = (rootN m : Nat) := by unfold rootV; rw [if_pos ⟨by omega, by omega, hy⟩]; rfl
    have e2 : rootE (m : Int) = 0 := by unfold rootE; rw [if_pos ⟨by omega, by omega, hy⟩]
    rw [e1, e2]
    exact this

/-! ### powers -/
theorem pow_le (w : Nat) {p : Nat} (hp : 1 ≤ p) (h47 : p ≤ 47) : ∀ i, powN w p i ≤ 47
  | 0 => by simp [powN]
  | i + 1 => by have := Nat.mod_lt (powN w p i * w) (show 0 < p by omega); simp only [powN]; omega

theorem rPow {w e p : Nat} (h1 : w ≤ 47) (h2 : e ≤ 200) (h3 : 1 ≤ p) (h4 : p ≤ 47) : ∀ f i : Nat, i + f = e →
    Runs I26 (tmsPow.map Tm.pre) ssPow 1 [{ i := (w : Int) }, { i := (e : Int) }, { i := (p : Int) }, { i := (powN w p i : Int) }, { i := (i : Int) }] [{ i := (powN w p e : Int) }]
  | f, i, hi => by
    refine Runs.step rfl ?_ ?_
    · simp only [tmsPow, List.map_cons, List.getD_cons_zero, List.getD_cons_succ, holds_cons_iff, E.den, BiO.den, decide_eq_true_eq]
      refine ⟨?_, ?_, ?_, ?_, ?_, ?_, ?_, Holds.nil⟩ <;> omega
    · simp only [StOk, E.den, BiO.den, UnO.den, List.map_cons, List.map_nil, List.getD_cons_zero, List.getD_cons_succ, decide_eq_true_eq, decide_eq_false_iff_not]
      have hx := pow_le w h3 h4 i
      have hxw : powN w p i * w ≤ 47 * 47 := Nat.mul_le_mul hx h1
      refine ⟨fun hlt => ?_, fun hge => ?_⟩
      · cases f with
        | zero => omega
        | succ f =>
          rw [← Int.natCast_mul, w64 (by omega) (by omega), ← Int.ofNat_tmod]
          exact rPow h1 h2 h3 h4 f (i + 1) (by omega)
      · obtain rfl : i = e := by omega
        rfl

theorem vPow : cPow.Valid (cx [] [34]) I26 := by
  refine Ctr.valid_run resp26 (glIn _ _) (fun c hc => by cases hc) (by decide) (by decide) (by kernel_rfl) rfl sPow [.i, .i, .i] [.i] (by decide) ?_
  intro ρ0 hρ hpre _
  obtain ⟨a, b, c, rfl⟩ : ∃ a b c : Int, ρ0 = [{ i := a }, { i := b }, { i := c }] := ⟨_, _, _, hρ⟩
  obtain ⟨h1, h2, h3, h4, h5, h6, _⟩ : 0 ≤ a ∧ a ≤ 47 ∧ 0 ≤ b ∧ b ≤ 200 ∧ 1 ≤ c ∧ c ≤ 47 ∧ True := by simpa [cPow, holds_cons_iff, holds_nil_iff, E.den, BiO.den] using hpre
  obtain ⟨w, rfl⟩ := Int.eq_ofNat_of_zero_le h1
  obtain ⟨e, rfl⟩ := Int.eq_ofNat_of_zero_le h3
  obtain ⟨p, rfl⟩ := Int.eq_ofNat_of_zero_le (show 0 ≤ c by omega)
  exact ⟨[{ i := (powN w p e : Int) }], Runs.step rfl hpre (rPow (by omega) (by omega) (by omega) (by omega) e 0 (by omega)), rfl⟩

/-! ### starters -/
theorem start_run : ((List.range 25).all fun m => decide (m < 2) || decide (goN I26 (tmsStart.map Tm.pre) ssStart 100 0 [{ i := (m : Int) }] = some [{ l := startL m }, { i := 0 }])) = true := by kernel_rfl
theorem rstart_run : ((List.range 25).all fun m => decide (m < 2) || decide (goN I26 (tmsRStart.map Tm.pre) ssRStart 100 0 [{ i := (m : Int) }] = some [{ l := startL m }, { i := 0 }])) = true := by kernel_rfl

theorem start_far {t : Int} (h : t < 2 ∨ 24 < t) : startL t = [] ∧ startE t = 2 := by
  unfold startL startE
  rw [if_neg (by omega), if_neg (by omega)]
  exact ⟨rfl, rfl⟩

theorem vStart : cStart.Valid (cx [cPrimeT, cRoot] [15, 37]) I26 := by
  refine Ctr.valid_run resp26 (glIn _ _) (allOf (.cons (re vPrimeT) (.cons (re vRoot) .nil))) (by decide) (by decide) (by kernel_rfl) rfl sStart [.i] [.l, .i] (by decide) ?_
  intro ρ0 hρ hpre _
  obtain ⟨t, rfl⟩ := one_i hρ
  refine ⟨[{ l := startL t }, { i := startE t }], ?_, rfl⟩
  by_cases h : 2 ≤ t ∧ t ≤ 24
  · obtain ⟨m, rfl, h2, h3⟩ := prime_cases h.1 h.2
    have := List.all_eq_true.1 start_run m (List.mem_range.2 (by omega))
    rw [decide_eq_false (by omega : ¬ m < 2), Bool.false_or] at this
    have e : startE (m : Int) = 0 := by unfold startE; rw [if_pos h]
    rw [e]
    exact runs_of this
  · rw [(start_far (by omega)).1, (start_far (by omega)).2]
    refine Runs.step rfl hpre ?_
    simp only [StOk, E.den, BiO.den, List.map_cons, List.map_nil, List.getD_cons_zero, decide_eq_true_eq, decide_eq_false_iff_not]
    exact ⟨fun _ => trivial, fun h1 => ⟨fun _ => trivial, fun h2 => by omega⟩⟩

theorem vRStart : cRStart.Valid (cx [cRPrimeT, cRRoot, cPow] [20]) I26 := by
  refine Ctr.valid_run resp26 (glIn _ _) (allOf (.cons (re vRPrimeT) (.cons (re vRRoot) (.cons (re vPow) .nil)))) (by decide) (by decide) (by kernel_rfl) rfl sRStart [.i] [.l, .i] (by decide) ?_
  intro ρ0 hρ hpre _
  obtain ⟨t, rfl⟩ := one_i hρ
  refine ⟨[{ l := startL t }, { i := startE t }], ?_, rfl⟩
  by_cases h : 2 ≤ t ∧ t ≤ 24
  · obtain ⟨m, rfl, h2, h3⟩ := prime_cases h.1 h.2
    have := List.all_eq_true.1 rstart_run m (List.mem_range.2 (by omega))
    rw [decide_eq_false (by omega : ¬ m < 2), Bool.false_or] at this
    have e : startE (m : Int) = 0 := by unfold startE; rw [if_pos h]
    rw [e]
    exact runs_of this
  · rw [(start_far (by omega)).1, (start_far (by omega)).2]
    refine Runs.step rfl hpre ?_
    simp only [StOk, E.den, BiO.den, UnO.den, List.map_cons, List.map_nil, List.getD_cons_zero, decide_eq_true_eq, decide_eq_false_iff_not]
    exact ⟨fun _ => trivial, fun h1 => ⟨fun _ => trivial, fun h2 => by omega⟩⟩
end Go.Proofs.Ytohelfcinfpmaaa
