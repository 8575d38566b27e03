/- Chapter 27: fair movements. -/
import Derived.Test.YtiohgpifeamkhaaC27P
import Derived.Test.YtiohgpifeamkhaaC27Sf
namespace Go.Proofs.Ytiohgpifeamkhaa
open Go Go.Sx Go.Proofs.C27

/-- a row of truth values as a mask -/
def bitsL (n m : Nat) : List (List Int) := (List.range n).map fun i => [if m.testBit i then (1 : Int) else 0]
theorem bitsL_len (n m : Nat) : (bitsL n m).length = n := by simp [bitsL]
theorem bitsL_get {n m y : Nat} (h : y < n) : ((bitsL n m).getD y []).getD 0 0 = if m.testBit y then 1 else 0 := by
  simp [bitsL, List.getD_eq_getElem?_getD, h]
theorem bitsL_set {n m y : Nat} (h : y < n) : setAt (bitsL n m) y 0 1 = bitsL n (m ||| 1 <<< y) := by
  unfold setAt
  apply List.ext_getElem?
  intro i
  rw [List.getElem?_set]
  have hl := bitsL_len n m
  by_cases hi : y = i
  · subst hi
    rw [if_pos rfl, if_pos (by omega)]
    simp [bitsL, List.getD_eq_getElem?_getD, h, Nat.testBit_or, Nat.testBit_shiftLeft]
  · rw [if_neg hi]
    by_cases hn : i < n
    · simp only [bitsL, List.getElem?_map, List.getElem?_range hn, Option.map_some, Nat.testBit_or]
      have : (1 <<< y).testBit i = false := by
        rw [Nat.testBit_shiftLeft]
        by_cases hy : y ≤ i
        · have : i - y ≠ 0 := by omega
          rw [decide_eq_true hy, Bool.true_and]
          obtain ⟨d, hd⟩ : ∃ d, i - y = d + 1 := ⟨i - y - 1, by omega⟩
          rw [hd, Nat.testBit_succ]
          simp
        · simp [hy]
      rw [this, Bool.or_false]
    · rw [List.getElem?_eq_none (by simp [bitsL]; omega), List.getElem?_eq_none (by simp [bitsL]; omega)]
theorem bitsL_zero (n : Nat) : List.replicate n [(0 : Int)] = bitsL n 0 := by
  apply List.ext_getElem?
  intro i
  by_cases hn : i < n
  · simp [bitsL, hn]
  · rw [List.getElem?_eq_none (by simp; omega), List.getElem?_eq_none (by simp [bitsL]; omega)]

/-- a column of numbers -/
def colL (c : List Nat) : List (List Int) := c.map fun (x : Nat) => [(x : Int)]
theorem colL_len (c : List Nat) : (colL c).length = c.length := by simp [colL]
theorem colL_get {c : List Nat} {q : Nat} (h : q < c.length) : ((colL c).getD q []).getD 0 0 = (c.getD q 0 : Nat) := by
  simp [colL, List.getD_eq_getElem?_getD, h]
theorem colL_set {c : List Nat} {q x : Nat} (h : q < c.length) : setAt (colL c) q 0 (x : Int) = colL (c.set q x) := by
  unfold setAt colL
  rw [List.map_set]
  congr 1
  simp [List.getD_eq_getElem?_getD, h]
theorem colL_zero (n : Nat) : List.replicate n [(0 : Int)] = colL (List.replicate n 0) := by simp [colL]

theorem fairRow_some {T S C round table : Nat} {r : List Int} {s s' : FS} {c : List Nat} (hs : s.stands = colL c) (hc : c.length = S) (h : fairRow T S C round table r s = some s') :
    ∃ a b q : Nat, r.getD 0 0 = (round : Int) ∧ r.getD 1 0 = (table : Int) ∧ r.getD 2 0 = (a : Int) ∧ r.getD 3 0 = (b : Int) ∧ r.getD 4 0 = (q : Int) ∧ 1 ≤ a ∧ a ≤ 2 * T ∧ 1 ≤ b ∧ b ≤ 2 * T ∧ a ≠ b ∧ q < S ∧
      s.sits.testBit a = false ∧ s.sits.testBit b = false ∧ s.plays.testBit (a * S + q) = false ∧ s.plays.testBit (b * S + q) = false ∧ s.meets.testBit (min a b * (2 * T + 1) + max a b) = false ∧ c.getD q 0 + 1 ≤ C ∧
      s' = { plays := (s.plays ||| 1 <<< (a * S + q)) ||| 1 <<< (b * S + q), meets := s.meets ||| 1 <<< (min a b * (2 * T + 1) + max a b), sits := (s.sits ||| 1 <<< a) ||| 1 <<< b, stands := colL (c.set q (c.getD q 0 + 1)) } := by
  unfold fairRow at h
  simp only at h
  split at h
  · rename_i hg
    obtain ⟨g0, g1, g2, g3, g4, g5, g6, g7, g8⟩ := hg
    split at h
    · rename_i hb
      simp only [Bool.and_eq_true, Bool.not_eq_true', decide_eq_true_eq] at hb
      obtain ⟨⟨⟨⟨⟨b1, b2⟩, b3⟩, b4⟩, b5⟩, b6⟩ := hb
      simp only [Option.some.injEq] at h
      have hq : (r.getD 4 0).toNat < c.length := by omega
      rw [hs, colL_get hq] at b6 h
      refine ⟨(r.getD 2 0).toNat, (r.getD 3 0).toNat, (r.getD 4 0).toNat, g0, g1, by omega, by omega, by omega, by omega, by omega, by omega, by omega, by omega, by omega, b1, b2, b3, b4, b5, by omega, ?_⟩
      rw [← h]
      congr 1
      exact colL_set (x := c.getD (r.getD 4 0).toNat 0 + 1) hq
    · cases h
  · cases h

/-- what the two loops keep -/
structure FairAt (T R S C : Nat) (rows : List (List Int)) : Prop where
  t1 : 1 ≤ T
  t24 : T ≤ 24
  r47 : R ≤ 47
  s1 : 1 ≤ S
  s47 : S ≤ 47
  c24 : C ≤ 24
  len : rows.length = T * R
  els : (rows.all fun r => r.all fun x => decide ((0 : Int) ≤ x) && decide (x ≤ 100)) = true

def fairRho (T R S C : Nat) (w : Int) (rows : List (List Int)) (l : List U) : List U := { i := (T : Int) } :: { i := (R : Int) } :: { i := (S : Int) } :: { i := (C : Int) } :: { i := w } :: { l := rows } :: l

theorem set_max {a b T : Nat} (ha : a ≤ 2 * T) (hb : b ≤ 2 * T) (hT : T ≤ 24) :
    IntKind.wrap .i64 ((if (b : Int) < a then (b : Int) else a) * (2 * (T : Int) + 1) + (if (b : Int) > a then (b : Int) else a)) = ((min a b * (2 * T + 1) + max a b : Nat) : Int) := by
  have e1 : (if (b : Int) < a then (b : Int) else a) = ((min a b : Nat) : Int) := by split <;> omega
  have e2 : (if (b : Int) > a then (b : Int) else a) = ((max a b : Nat) : Int) := by split <;> omega
  have h : min a b * (2 * T + 1) ≤ 48 * 49 := Nat.mul_le_mul (by omega) (by omega)
  rw [e1, e2, show (2 * (T : Int) + 1) = ((2 * T + 1 : Nat) : Int) from by omega, ← Int.natCast_mul, ← Int.natCast_add]
  exact w64 (by omega) (by omega)

theorem rFair2 {T R S C : Nat} {w : Int} {rows : List (List Int)} (A : FairAt T R S C rows) (hB : fairB [(T : Int), (R : Int), (S : Int), (C : Int)] rows = true) {round : Nat} (hround : round < R) {out : List U}
    (hnext : ∀ s : FS, s.stands = List.replicate S [0] → s.sits = 0 → fairRows T S C (rows.drop ((round + 1) * T)) (round + 1) 0 s = true →
      Runs I27 (tmsFair.map Tm.pre) ssFair 1 (fairRho T R S C w rows [{ i := ((round + 1 : Nat) : Int) }, { l := bitsL ((2 * T + 1) * S) s.plays }, { l := bitsL ((2 * T + 1) * (2 * T + 1)) s.meets }]) out) :
    ∀ (f table : Nat) (s : FS) (c : List Nat), table + f = T → 1 ≤ f → s.stands = colL c → c.length = S → (∀ q, c.getD q 0 ≤ table) → fairRows T S C (rows.drop (round * T + table)) round table s = true →
      Runs I27 (tmsFair.map Tm.pre) ssFair 2 (fairRho T R S C w rows [{ l := bitsL ((2 * T + 1) * S) s.plays }, { l := bitsL ((2 * T + 1) * (2 * T + 1)) s.meets }, { l := bitsL (2 * T + 1) s.sits }, { l := s.stands }, { i := (table : Int) }, { i := (round : Int) }]) out
  | f, table, s, c, hf, hf1, hst, hcl, hcb, hrows => by
    obtain ⟨t1, t24, r47, s1, s47, c24, hlen, hels⟩ := A
    have hpre : ∀ (l6 l7 l8 : List (List Int)) (c' : List Nat) (tb : Nat), c'.length = S → tb ≤ T → Holds I27 (fairRho T R S C w rows [{ l := l6 }, { l := l7 }, { l := l8 }, { l := colL c' }, { i := (tb : Int) }, { i := (round : Int) }]) ((tmsFair.map Tm.pre).getD 2 []) := by
      intro l6 l7 l8 c' tb hc' htb
      simp only [tmsFair, fairRho, List.map_cons, List.getD_cons_zero, List.getD_cons_succ, holds_cons_iff, E.den, BiO.den, UnO.den, TeO.den, decide_eq_true_eq, beq_iff_eq, colL_len]
      refine ⟨?_, ?_, ?_, ?_, ?_, ?_, ?_, ?_, ?_, ?_, ?_, ?_, hels, hB, Holds.nil⟩ <;> omega
    -- the row
    have hk : round * T + table < rows.length := by
      rw [hlen]
      have : (round + 1) * T ≤ R * T := Nat.mul_le_mul_right _ (by omega)
      rw [Nat.add_mul, Nat.one_mul] at this
      rw [Nat.mul_comm T R]
      omega
    have hdrop : rows.drop (round * T + table) = rows[round * T + table] :: rows.drop (round * T + table + 1) := List.drop_eq_getElem_cons hk
    have hget : rows.getD (round * T + table) [] = rows[round * T + table] := by rw [List.getD_eq_getElem?_getD, List.getElem?_eq_getElem hk]; rfl
    rw [hdrop] at hrows
    unfold fairRows at hrows
    split at hrows
    · cases hrows
    rename_i s' hs'
    obtain ⟨a, b, q, h0, h1, h2, h3, h4, a1, a2, b1, b2, hab, hq, bt1, bt2, bt3, bt4, bt5, hC, hs'e⟩ := fairRow_some hst hcl hs'
    rw [← hget] at h0 h1 h2 h3 h4
    have ek : ((round : Int) * (T : Int) + (table : Int)).toNat = round * T + table := by rw [← Int.natCast_mul, ← Int.natCast_add]; exact Int.toNat_natCast _
    have e6 : ∀ x : Nat, ((x : Int) * (S : Int) + (q : Int)).toNat = x * S + q := fun x => by rw [← Int.natCast_mul, ← Int.natCast_add]; exact Int.toNat_natCast _
    have l6 : ∀ x : Nat, x ≤ 2 * T → x * S + q < (2 * T + 1) * S := fun x hx => by
      have : (x + 1) * S ≤ (2 * T + 1) * S := Nat.mul_le_mul_right _ (by omega)
      rw [Nat.add_mul, Nat.one_mul] at this
      omega
    have l7 : min a b * (2 * T + 1) + max a b < (2 * T + 1) * (2 * T + 1) := by
      have : (min a b + 1) * (2 * T + 1) ≤ (2 * T + 1) * (2 * T + 1) := Nat.mul_le_mul_right _ (by omega)
      rw [Nat.add_mul, Nat.one_mul] at this
      omega
    have g8a := bitsL_get (n := 2 * T + 1) (m := s.sits) (y := a) (by omega)
    have g8b := bitsL_get (n := 2 * T + 1) (m := s.sits) (y := b) (by omega)
    have g6a := bitsL_get (n := (2 * T + 1) * S) (m := s.plays) (l6 a a2)
    have g6b := bitsL_get (n := (2 * T + 1) * S) (m := s.plays) (l6 b b2)
    have g7 := bitsL_get (n := (2 * T + 1) * (2 * T + 1)) (m := s.meets) l7
    rw [bt1] at g8a
    rw [bt2] at g8b
    rw [bt3] at g6a
    rw [bt4] at g6b
    rw [bt5] at g7
    simp only [Bool.false_eq_true, if_false] at g8a g8b g6a g6b g7
    have hcq := hcb q
    have gq := colL_get (c := c) (q := q) (by omega)
    have gw : IntKind.wrap .i64 ((c.getD q 0 : Int) + 1) = ((c.getD q 0 + 1 : Nat) : Int) := w64 (by omega) (by omega)
    have gs := colL_set (c := c) (q := q) (x := c.getD q 0 + 1) (by omega)
    have gq2 := colL_get (c := c.set q (c.getD q 0 + 1)) (q := q) (by rw [List.length_set]; omega)
    have gq3 : (c.set q (c.getD q 0 + 1)).getD q 0 = c.getD q 0 + 1 := by rw [List.getD_eq_getElem?_getD, List.getElem?_set_self (by omega)]; rfl
    have wT : IntKind.wrap .i64 (2 * (T : Int) + 1) = 2 * (T : Int) + 1 := w64 (by omega) (by omega)
    have gm := set_max a2 b2 t24
    have c6 : ∀ x : Nat, x ≤ 2 * T → (x : Int) * (S : Int) + (q : Int) < (2 * (T : Int) + 1) * (S : Int) := fun x hx => by have := l6 x hx; exact_mod_cast this
    have c6' : ∀ x : Nat, x ≤ 2 * T → (x : Int) * (S : Int) + (q : Int) < (((2 * T + 1) * S : Nat) : Int) := fun x hx => by have := l6 x hx; exact_mod_cast this
    have c7 : ((min a b * (2 * T + 1) + max a b : Nat) : Int) < (2 * (T : Int) + 1) * (2 * (T : Int) + 1) := by exact_mod_cast l7
    have c7' : ((min a b * (2 * T + 1) + max a b : Nat) : Int) < (((2 * T + 1) * (2 * T + 1) : Nat) : Int) := by exact_mod_cast l7
    have ck : (round : Int) * (T : Int) + (table : Int) < rows.length := by exact_mod_cast hk
    rw [hst]
    refine Runs.step rfl (hpre _ _ _ c table hcl (by omega)) ?_
    refine br_t ?_ (ne_ed ?_ (br_f ?_ (br_f ?_ (br_f ?_ (br_f ?_ (br_f ?_ (br_f ?_ (br_f ?_ (br_f ?_ (br_f ?_ (br_f ?_ (br_f ?_ (br_f ?_ (br_f ?_ (ne_ed ?_ (br_f ?_ ?_))))))))))))))))
    all_goals simp only [fairRho, StOk, E.den, BiO.den, UnO.den, TeO.den, List.map_cons, List.map_nil, List.getD_cons_zero, List.getD_cons_succ, Int.toNat_zero, show Int.toNat 1 = 1 from rfl, show Int.toNat 2 = 2 from rfl, show Int.toNat 3 = 3 from rfl, show Int.toNat 4 = 4 from rfl, ek, h0, h1, h2, h3, h4, Int.toNat_natCast, e6, gm, g8a, g8b, g6a, g6b, g7, gq, gw, gs, gq2, gq3, wT, bitsL_len, beq_self_eq_true, Bool.not_true, holds_cons_iff, holds_nil_iff, decide_eq_true_eq, decide_eq_false_iff_not]
    · omega
    · exact ⟨by omega, trivial⟩
    · omega
    · omega
    · omega
    · omega
    · omega
    · rw [beq_eq_false_iff_ne]; omega
    · exact ⟨by omega, by omega, by omega, by omega, c6 a a2, c6' a a2, c6 b b2, c6' b b2, Int.natCast_nonneg _, c7, Int.natCast_nonneg _, c7', trivial⟩
    · omega
    · rw [bitsL_set (l6 a a2), bitsL_set (l6 b b2), bitsL_set l7, bitsL_set (show a < 2 * T + 1 by omega), bitsL_set (show b < 2 * T + 1 by omega)]
      have hcl' : (c.set q (c.getD q 0 + 1)).length = S := by rw [List.length_set]; exact hcl
      have hcb' : ∀ j, (c.set q (c.getD q 0 + 1)).getD j 0 ≤ table + 1 := by
        intro j
        by_cases hj : j = q
        · subst hj; rw [gq3]; omega
        · have := hcb j
          rw [List.getD_eq_getElem?_getD, List.getElem?_set_ne (Ne.symm hj), ← List.getD_eq_getElem?_getD]
          omega
      subst hs'e
      split at hrows
      · rename_i hT
        refine Runs.step rfl (hpre _ _ _ _ (table + 1) hcl' (by omega)) ?_
        refine br_f ?_ ?_
        · simp only [E.den, BiO.den, List.getD_cons_zero, List.getD_cons_succ, decide_eq_false_iff_not]; omega
        · simp only [StOk, E.den, BiO.den, List.map_cons, List.map_nil, List.getD_cons_zero, List.getD_cons_succ]
          rw [show round * T + table + 1 = (round + 1) * T from by rw [Nat.add_mul, Nat.one_mul]; omega] at hrows
          exact hnext _ rfl rfl hrows
      · rename_i hT
        cases f with
        | zero => omega
        | succ f => exact rFair2 ⟨t1, t24, r47, s1, s47, c24, hlen, hels⟩ hB hround hnext f (table + 1) _ _ (by omega) (by omega) rfl hcl' hcb' hrows

theorem rFair1 {T R S C : Nat} {w : Int} {rows : List (List Int)} (A : FairAt T R S C rows) (hB : fairB [(T : Int), (R : Int), (S : Int), (C : Int)] rows = true) :
    ∀ (f round : Nat) (s : FS), round + f = R → s.stands = List.replicate S [0] → s.sits = 0 → fairRows T S C (rows.drop (round * T)) round 0 s = true →
      Runs I27 (tmsFair.map Tm.pre) ssFair 1 (fairRho T R S C w rows [{ i := (round : Int) }, { l := bitsL ((2 * T + 1) * S) s.plays }, { l := bitsL ((2 * T + 1) * (2 * T + 1)) s.meets }]) [{ b := true }]
  | f, round, s, hf, hst, hsit, hrows => by
    obtain ⟨t1, t24, r47, s1, s47, c24, hlen, hels⟩ := A
    refine Runs.step rfl ?_ ?_
    · simp only [tmsFair, fairRho, List.map_cons, List.getD_cons_zero, List.getD_cons_succ, holds_cons_iff, E.den, BiO.den, TeO.den, decide_eq_true_eq]
      refine ⟨?_, ?_, ?_, ?_, ?_, ?_, ?_, ?_, ?_, hels, hB, Holds.nil⟩ <;> omega
    · by_cases hr : round < R
      · refine br_t ?_ ?_
        · simp only [fairRho, E.den, BiO.den, List.getD_cons_zero, List.getD_cons_succ, decide_eq_true_eq]; omega
        · simp only [fairRho, StOk, E.den, BiO.den, List.map_cons, List.map_nil, List.getD_cons_zero, List.getD_cons_succ]
          cases f with
          | zero => omega
          | succ f =>
            have e1 : ((2 : Int) * (T : Int) + 1).toNat = 2 * T + 1 := by omega
            rw [e1, bitsL_zero, Int.toNat_natCast, ← hsit, ← hst]
            exact rFair2 ⟨t1, t24, r47, s1, s47, c24, hlen, hels⟩ hB hr (fun s' h1 h2 h3 => rFair1 ⟨t1, t24, r47, s1, s47, c24, hlen, hels⟩ hB f (round + 1) s' (by omega) h1 h2 h3) T 0 s (List.replicate S 0) (by omega) t1
              (by rw [hst, colL_zero]) (by rw [List.length_replicate]) (fun q => by rw [List.getD_eq_getElem?_getD, List.getElem?_replicate]; split <;> simp) (by rw [Nat.add_zero]; exact hrows)
      · refine br_f ?_ ?_
        · simp only [fairRho, E.den, BiO.den, List.getD_cons_zero, List.getD_cons_succ, decide_eq_false_iff_not]; omega
        · simp only [fairRho, StOk, E.den, BiO.den, UnO.den, List.map_cons, List.map_nil, List.getD_cons_zero, List.getD_cons_succ]
          rw [hlen, Int.natCast_mul, beq_self_eq_true]

theorem vFair : cFair.Valid (cx [] [cFair.fn]) I27 := by
  refine Ctr.valid_run resp27 (glIn _ _) (fun c hc => by cases hc) (by decide) (by decide) (by kernel_rfl) rfl sFair [.i, .i, .i, .i, .i, .l] [.b] (by decide) ?_
  intro ρ0 hρ hpre _
  obtain ⟨t, r, sn, cn, w, rows, rfl⟩ : ∃ (t r sn cn w : Int) (rows : List (List Int)), ρ0 = [{ i := t }, { i := r }, { i := sn }, { i := cn }, { i := w }, { l := rows }] := ⟨_, _, _, _, _, _, hρ⟩
  have hp := hpre
  simp only [cFair, le', List.cons_append, List.nil_append, holds_cons_iff, E.den, BiO.den, TeO.den, List.getD_cons_zero, List.getD_cons_succ, decide_eq_true_eq, C27.rowOf] at hp
  obtain ⟨p1, p2, p3, p4, p5, p6, p7, p8, p9, p10, _⟩ := hp
  obtain ⟨T, rfl⟩ := Int.eq_ofNat_of_zero_le (show 0 ≤ t by omega)
  obtain ⟨R, rfl⟩ := Int.eq_ofNat_of_zero_le p3
  obtain ⟨S, rfl⟩ := Int.eq_ofNat_of_zero_le (show 0 ≤ sn by omega)
  obtain ⟨C, rfl⟩ := Int.eq_ofNat_of_zero_le p7
  have hB : fairB [(T : Int), (R : Int), (S : Int), (C : Int)] rows = true := p10
  have hB' := hB
  unfold fairB at hB'
  simp only [List.getD_cons_zero, List.getD_cons_succ, Int.toNat_natCast, Bool.and_eq_true, decide_eq_true_eq] at hB'
  obtain ⟨⟨_, _, _, _, _, _, _, _, hlen⟩, hrows⟩ := hB'
  have A : FairAt T R S C rows := ⟨by omega, by omega, by omega, by omega, by omega, by omega, hlen, p9⟩
  refine ⟨[{ b := true }], Runs.step rfl hpre ?_, rfl⟩
  have := rFair1 (w := w) A hB R 0 ⟨0, 0, 0, List.replicate S [0]⟩ (by omega) rfl rfl (by rw [Nat.zero_mul]; exact hrows)
  have e1 : ((2 * (T : Int) + 1) * (S : Int)).toNat = (2 * T + 1) * S := by exact_mod_cast Int.toNat_natCast ((2 * T + 1) * S)
  have e2 : ((2 * (T : Int) + 1) * (2 * (T : Int) + 1)).toNat = (2 * T + 1) * (2 * T + 1) := by exact_mod_cast Int.toNat_natCast ((2 * T + 1) * (2 * T + 1))
  simp only [StOk, E.den, BiO.den, List.map_cons, List.map_nil, List.getD_cons_zero, List.getD_cons_succ, e1, e2, bitsL_zero]
  exact this
end Go.Proofs.Ytiohgpifeamkhaa
