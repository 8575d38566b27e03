/- Chapter 27: who has which set. -/
import Derived.Test.YtiohgpifeamkhaaC27Q
import Derived.Test.YtiohgpifeamkhaaC27Ts
namespace Go.Proofs.Ytiohgpifeamkhaa
open Go Go.Sx Go.Proofs.C27

/-! ### Made -/
def madeOut (a b c : Int) : List U := [{ i := makeF 0 (madeT a c) (madeN a b c) (madeK c) }, { i := makeF 1 (madeT a c) (madeN a b c) (madeK c) }, { i := makeF 2 (madeT a c) (madeN a b c) (madeK c) }, { i := makeF 3 (madeT a c) (madeN a b c) (madeK c) }, { i := makeF 4 (madeT a c) (madeN a b c) (madeK c) }, { l := makeR (madeT a c) (madeN a b c) (madeK c) }, { i := madeK c }]
theorem made_out {a b c t k : Int} (hb : 0 ≤ b) (hb2 : b ≤ 255) (hk : k = madeK c) (ht : t = madeT a c) {n : Int} (hn : n = IntKind.wrap .i64 (b.tmod (if 1 > mostV t k then 1 else mostV t k) + 1)) :
    [({ i := makeF 0 t n k } : U), { i := makeF 1 t n k }, { i := makeF 2 t n k }, { i := makeF 3 t n k }, { i := makeF 4 t n k }, { l := makeR t n k }, { i := k }] = madeOut a b c := by
  have : n = madeN a b c := by
    rw [hn, hk, ht]
    unfold madeN
    have e : (if 1 > mostV (madeT a c) (madeK c) then (1 : Int) else mostV (madeT a c) (madeK c)) = (if mostV (madeT a c) (madeK c) < 1 then 1 else mostV (madeT a c) (madeK c)) := rfl
    rw [e]
    generalize hm : (if mostV (madeT a c) (madeK c) < 1 then (1 : Int) else mostV (madeT a c) (madeK c)) = m
    have hm1 : 0 < m := by rw [← hm]; split <;> omega
    have h1 := tmod_small hb hm1
    have h3 : b.tmod m ≤ b := by
      rw [Int.tmod_eq_emod_of_nonneg hb]
      clear hn hm e hk ht h1
      obtain ⟨x, rfl⟩ := int_nat hb
      obtain ⟨q, rfl⟩ := int_nat (x := m) (by omega)
      have := Nat.mod_le x q
      omega
    rw [w64 (by omega) (by omega), Int.add_comm]
  rw [this, hk, ht]
  rfl
theorem vMade : cMade.Valid (cx [] []) I27 := by
  refine re (Ctr.valid_run resp27 (glIn _ _) (allOf (.cons vMost (.cons vMake .nil))) (by decide) (by decide) (by kernel_rfl) rfl sMade [.i, .i, .i] [.i, .i, .i, .i, .i, .l, .i] (by decide) ?_)
  intro ρ0 hρ hpre _
  obtain ⟨a, b, c, rfl⟩ := three_iii hρ
  have hp := hpre
  simp only [cMade, u8s, le', List.cons_append, List.nil_append, holds_cons_iff, E.den, BiO.den, List.getD_cons_zero, List.getD_cons_succ, decide_eq_true_eq] at hp
  obtain ⟨a0, a1, b0, b1, c0, c1, _⟩ := hp
  have hT0 := tmod_small a0 (show (0 : Int) < 23 by omega)
  have hc3 := tmod_small c0 (show (0 : Int) < 3 by omega)
  have hKe : c.tmod 3 + 1 = madeK c := by unfold madeK; omega
  have e2 : (2 + a.tmod 23 : Int) = a.tmod 23 + 2 := Int.add_comm _ _
  refine ⟨madeOut a b c, Runs.step rfl hpre ?_, ?_⟩
  · simp only [StOk, E.den, BiO.den, UnO.den, List.map_cons, List.map_nil, List.getD_cons_zero, List.getD_cons_succ, beq_iff_eq, beq_eq_false_iff_ne, Bool.not_eq_true', Bool.not_eq_false', an1 (x := a.tmod 23 + 2) (by omega) (by omega)]
    refine ⟨fun k3 => ⟨fun k2 => ?_, fun k2 => ?_⟩, fun k3 => ?_⟩
    · refine made_out b0 b1 hKe ?_ rfl
      unfold madeT
      simp only [e2]
      rw [if_neg (show ¬ madeK c = 3 by omega)]
      split <;> split <;> omega
    · refine made_out b0 b1 hKe ?_ rfl
      unfold madeT
      simp only [e2]
      rw [if_neg (show ¬ madeK c = 3 by omega), if_neg (by omega)]
    · refine made_out b0 b1 hKe ?_ rfl
      unfold madeT
      simp only [e2]
      rw [if_pos (show madeK c = 3 by omega), if_neg (by omega)]
  · simp only [cMade, made, List.map_cons, List.map_nil, E.den, BiO.den, I27, List.getD_cons_zero, List.getD_cons_succ, hKe, madeOut, Nat.reduceSub]

/-! ### lists -/
theorem getD_at {A B : List (List Int)} {x : List Int} : (A ++ x :: B).getD A.length [] = x := by
  rw [List.getD_eq_getElem?_getD, List.getElem?_append_right (Nat.le_refl _), Nat.sub_self]; rfl
theorem get_ones (L : List Int) (i : Nat) : ((ones L).getD i []).getD 0 0 = L.getD i 0 := by
  unfold ones
  simp only [List.getD_eq_getElem?_getD, List.getElem?_map]
  cases L[i]? <;> rfl
theorem set_ones {L : List Int} {i : Nat} {x : Int} (h : i < L.length) : setAt (ones L) i 0 x = ones (L.set i x) := by
  unfold setAt ones
  rw [List.map_set]
  congr 1
  simp [List.getD_eq_getElem?_getD, h]
theorem ones_len (L : List Int) : (ones L).length = L.length := by simp [ones]
theorem ones_app (a b : List Int) : ones (a ++ b) = ones a ++ ones b := by simp [ones]

theorem setsOf_snoc (A : List (List Int)) (x : List Int) (round : Int) : setsOf (A ++ [x]) round = setsOf A round ++ if x.getD 0 0 = round then [[x.getD 4 0]] else [] := by
  unfold setsOf
  rw [List.filter_append, List.map_append, ones_app]
  congr 1
  by_cases h : x.getD 0 0 = round
  · rw [if_pos h]; simp only [List.filter_cons, List.filter_nil, beq_iff_eq, h, if_true]; rfl
  · rw [if_neg h]; simp only [List.filter_cons, List.filter_nil, beq_iff_eq, h, if_false]; rfl
theorem setsOf_len (A : List (List Int)) (round : Int) : (setsOf A round).length ≤ A.length := by
  unfold setsOf; rw [ones_len, List.length_map]; exact List.length_filter_le _ _
theorem rSets {m : List (List Int)} {round : Int} (hm : m.length ≤ 5000) : ∀ B A : List (List Int), A ++ B = m →
    Runs I27 (tmsSets.map Tm.pre) ssSets 1 [{ l := m }, { i := round }, { l := setsOf A round }, { i := (A.length : Int) }] [{ l := setsOf m round }]
  | B, A, hAB => by
    have hlen : A.length + B.length = m.length := by rw [← hAB, List.length_append]
    have hsl := setsOf_len A round
    refine Runs.step rfl ?_ ?_
    · simp only [tmsSets, List.map_cons, List.getD_cons_zero, List.getD_cons_succ, holds_cons_iff, E.den, BiO.den, UnO.den, decide_eq_true_eq]
      exact ⟨by omega, by omega, by omega, Holds.nil⟩
    cases B with
    | nil =>
      rw [List.append_nil] at hAB
      subst hAB
      refine br_f ?_ rfl
      simp only [E.den, BiO.den, UnO.den, List.getD_cons_zero, List.getD_cons_succ, decide_eq_false_iff_not]
      omega
    | cons x B =>
      have hget : m.getD A.length [] = x := by rw [← hAB]; exact getD_at
      have ih := rSets (round := round) hm B (A ++ [x]) (by rw [List.append_assoc]; exact hAB)
      rw [setsOf_snoc, List.length_append, List.length_cons, List.length_nil, Nat.zero_add, Int.natCast_add, Int.natCast_one] at ih
      refine br_t ?_ ?_
      · simp only [E.den, BiO.den, UnO.den, List.getD_cons_zero, List.getD_cons_succ, decide_eq_true_eq]; simp at hlen; omega
      simp only [StOk, E.den, BiO.den, UnO.den, TeO.den, List.map_cons, List.map_nil, List.getD_cons_zero, List.getD_cons_succ, Int.toNat_natCast, hget, show Int.toNat 0 = 0 from rfl, show Int.toNat 4 = 4 from rfl, beq_iff_eq, beq_eq_false_iff_ne, holds_cons_iff, holds_nil_iff, decide_eq_true_eq]
      refine ⟨fun h => ⟨⟨by simp at hlen; omega, trivial⟩, fun _ => ?_⟩, fun h => ?_⟩
      · rw [if_pos h] at ih; exact ih
      · rw [if_neg h, List.append_nil] at ih; exact ih
theorem vSets : cSets.Valid (cx [] []) I27 := by
  refine re (Ctr.valid_run resp27 (glIn _ _) (fun c hc => by cases hc) (by decide) (by decide) (by kernel_rfl) rfl sSets [.i, .i, .i, .i, .i, .l, .i] [.l] (by decide) ?_)
  intro ρ0 hρ hpre _
  obtain ⟨a, b, c, d, e, m, x, rfl⟩ := seven_m hρ
  have hp := hpre
  simp only [cSets, most, holds_cons_iff, E.den, BiO.den, UnO.den, List.getD_cons_zero, List.getD_cons_succ, decide_eq_true_eq] at hp
  have h1 : (m.length : Int) ≤ 5000 := hp.1
  refine ⟨[{ l := setsOf m x }], Runs.step rfl hpre ?_, rfl⟩
  exact rSets (by omega) m [] rfl

theorem rEq1 {a b : List (List Int)} (hl : a.length ≤ 5000) (hlen : a.length = b.length) : ∀ f i : Nat, i + f = a.length → (∀ j, j < i → ∀ c, c < 1 → (a.getD j []).getD c 0 = (b.getD j []).getD c 0) →
    Runs I27 (tmsEq1.map Tm.pre) ssEq1 1 [{ l := a }, { l := b }, { i := (i : Int) }] [{ b := eqR 1 a b }]
  | f, i, hi, hj => by
    refine Runs.step rfl ?_ ?_
    · simp only [tmsEq1, List.map_cons, List.getD_cons_zero, List.getD_cons_succ, holds_cons_iff, E.den, BiO.den, UnO.den, decide_eq_true_eq, beq_iff_eq]
      (repeat' refine And.intro ?_ ?_) <;> first | exact Holds.nil | omega
    · simp only [StOk, E.den, BiO.den, UnO.den, TeO.den, List.map_cons, List.map_nil, List.getD_cons_zero, List.getD_cons_succ, decide_eq_true_eq, decide_eq_false_iff_not, Int.toNat_natCast, Int.toNat_zero, Bool.not_eq_true', Bool.not_eq_false', beq_iff_eq, beq_eq_false_iff_ne]
      refine ⟨fun hlt => ⟨fun q => ?_, fun q => ?_⟩, fun hge => ?_⟩
      · have : eqR 1 a b ≠ true := fun h => q ((eqR_iff.1 h).2 i (by omega) 0 (by omega))
        rw [Bool.eq_false_iff.2 this]
      · cases f with
        | zero => omega
        | succ f =>
          refine rEq1 hl hlen f (i + 1) (by omega) fun j hj' c hc => ?_
          rcases Nat.lt_or_eq_of_le (Nat.le_of_lt_succ hj') with h | rfl
          · exact hj j h c hc
          · match c, hc with
            | 0, _ => exact q
      · have : eqR 1 a b = true := eqR_iff.2 ⟨hlen, fun j hj' c hc => hj j (by omega) c hc⟩
        rw [this]
theorem vEq1 : cEq1.Valid (cx [] []) I27 := by
  refine re (Ctr.valid_run resp27 (glIn _ _) (fun c hc => by cases hc) (by decide) (by decide) (by kernel_rfl) rfl sEq1 [.l, .l] [.b] (by decide) ?_)
  intro ρ0 hρ hpre _
  obtain ⟨a, b, rfl⟩ := two_ll hρ
  have hp := hpre
  simp only [cEq1, most, holds_cons_iff, E.den, BiO.den, UnO.den, List.getD_cons_zero, decide_eq_true_eq] at hp
  obtain ⟨h1, _⟩ := hp
  refine ⟨[{ b := eqR 1 a b }], Runs.step rfl hpre ?_, rfl⟩
  simp only [StOk, E.den, BiO.den, UnO.den, List.map_cons, List.map_nil, List.getD_cons_zero, List.getD_cons_succ, Bool.not_eq_true', Bool.not_eq_false', beq_iff_eq, beq_eq_false_iff_ne]
  refine ⟨fun q => ?_, fun q => ?_⟩
  · have : eqR 1 a b ≠ true := fun h => by have := (eqR_iff.1 h).1; omega
    rw [Bool.eq_false_iff.2 this]
  · exact rEq1 (by omega) (by omega) a.length 0 (by omega) (fun j h => by omega)
theorem rEq2 {a b : List (List Int)} (hl : a.length ≤ 5000) (hlen : a.length = b.length) : ∀ f i : Nat, i + f = a.length → (∀ j, j < i → ∀ c, c < 2 → (a.getD j []).getD c 0 = (b.getD j []).getD c 0) →
    Runs I27 (tmsEq2.map Tm.pre) ssEq2 1 [{ l := a }, { l := b }, { i := (i : Int) }] [{ b := eqR 2 a b }]
  | f, i, hi, hj => by
    refine Runs.step rfl ?_ ?_
    · simp only [tmsEq2, List.map_cons, List.getD_cons_zero, List.getD_cons_succ, holds_cons_iff, E.den, BiO.den, UnO.den, decide_eq_true_eq, beq_iff_eq]
      (repeat' refine And.intro ?_ ?_) <;> first | exact Holds.nil | omega
    · simp only [StOk, E.den, BiO.den, UnO.den, TeO.den, List.map_cons, List.map_nil, List.getD_cons_zero, List.getD_cons_succ, decide_eq_true_eq, decide_eq_false_iff_not, Int.toNat_natCast, Int.toNat_zero, show Int.toNat 1 = 1 from rfl, Bool.not_eq_true', Bool.not_eq_false', Bool.and_eq_true, Bool.and_eq_false_iff, beq_iff_eq, beq_eq_false_iff_ne]
      refine ⟨fun hlt => ⟨fun q => ?_, fun q => ?_⟩, fun hge => ?_⟩
      · have : eqR 2 a b ≠ true := fun h => by
          have e0 := (eqR_iff.1 h).2 i (by omega) 0 (by omega)
          have e1 := (eqR_iff.1 h).2 i (by omega) 1 (by omega)
          omega
        rw [Bool.eq_false_iff.2 this]
      · cases f with
        | zero => omega
        | succ f =>
          refine rEq2 hl hlen f (i + 1) (by omega) fun j hj' c hc => ?_
          rcases Nat.lt_or_eq_of_le (Nat.le_of_lt_succ hj') with h | rfl
          · exact hj j h c hc
          · match c, hc with
            | 0, _ => exact q.1
            | 1, _ => exact q.2
      · have : eqR 2 a b = true := eqR_iff.2 ⟨hlen, fun j hj' c hc => hj j (by omega) c hc⟩
        rw [this]
theorem vEq2 : cEq2.Valid (cx [] []) I27 := by
  refine re (Ctr.valid_run resp27 (glIn _ _) (fun c hc => by cases hc) (by decide) (by decide) (by kernel_rfl) rfl sEq2 [.l, .l] [.b] (by decide) ?_)
  intro ρ0 hρ hpre _
  obtain ⟨a, b, rfl⟩ := two_ll hρ
  have hp := hpre
  simp only [cEq2, most, holds_cons_iff, E.den, BiO.den, UnO.den, List.getD_cons_zero, decide_eq_true_eq] at hp
  obtain ⟨h1, _⟩ := hp
  refine ⟨[{ b := eqR 2 a b }], Runs.step rfl hpre ?_, rfl⟩
  simp only [StOk, E.den, BiO.den, UnO.den, List.map_cons, List.map_nil, List.getD_cons_zero, List.getD_cons_succ, Bool.not_eq_true', Bool.not_eq_false', beq_iff_eq, beq_eq_false_iff_ne]
  refine ⟨fun q => ?_, fun q => ?_⟩
  · have : eqR 2 a b ≠ true := fun h => by have := (eqR_iff.1 h).1; omega
    rw [Bool.eq_false_iff.2 this]
  · exact rEq2 (by omega) (by omega) a.length 0 (by omega) (fun j h => by omega)

/-! ### Loads -/
def cntL (S : Nat) (ks : List Int) : List Int := (List.range S).map fun (q : Nat) => ((ks.count (q : Int) : Nat) : Int)
theorem cntL_len (S : Nat) (ks : List Int) : (cntL S ks).length = S := by simp [cntL]
theorem cntL_get {S q : Nat} {ks : List Int} (h : q < S) : (cntL S ks).getD q 0 = (ks.count (q : Int) : Nat) := by
  simp [cntL, List.getD_eq_getElem?_getD, h]
theorem cntL_in {S q : Nat} {ks : List Int} (h : q < S) : (cntL S ks).set q (((ks.count (q : Int) : Nat) : Int) + 1) = cntL S (ks ++ [(q : Int)]) := by
  apply List.ext_getElem?
  intro i
  rw [List.getElem?_set, cntL_len]
  unfold cntL
  by_cases hi : i < S
  · rw [List.getElem?_map, List.getElem?_map, List.getElem?_range hi]
    simp only [Option.map_some, List.count_append]
    by_cases hqi : q = i
    · subst hqi
      rw [if_pos rfl, if_pos h]
      simp
    · rw [if_neg hqi]
      have : List.count (i : Int) [(q : Int)] = 0 := List.count_eq_zero.2 (by simp; omega)
      simp only [this, Nat.add_zero]
  · rw [if_neg (by omega), List.getElem?_eq_none (by simp; omega), List.getElem?_eq_none (by simp; omega)]
theorem cntL_out {S : Nat} {x : Int} {ks : List Int} (h : ¬ (0 ≤ x ∧ x < S)) : cntL S (ks ++ [x]) = cntL S ks := by
  unfold cntL
  apply List.map_congr_left
  intro q hq
  rw [List.mem_range] at hq
  rw [List.count_append]
  have : List.count (q : Int) [x] = 0 := List.count_eq_zero.2 (by
    rw [List.mem_singleton]; intro e; omega)
  rw [this, Nat.add_zero]
def setsI (m : List (List Int)) (round : Int) : List Int := (m.filter fun r => r.getD 0 0 == round).map fun r => r.getD 4 0
theorem setsI_snoc (A : List (List Int)) (x : List Int) (round : Int) : setsI (A ++ [x]) round = setsI A round ++ if x.getD 0 0 = round then [x.getD 4 0] else [] := by
  unfold setsI
  rw [List.filter_append, List.map_append]
  congr 1
  by_cases h : x.getD 0 0 = round
  · rw [if_pos h]; simp only [List.filter_cons, List.filter_nil, beq_iff_eq, h, if_true]; rfl
  · rw [if_neg h]; simp only [List.filter_cons, List.filter_nil, beq_iff_eq, h, if_false]; rfl
theorem setsI_len (A : List (List Int)) (round : Int) : (setsI A round).length ≤ A.length := by
  unfold setsI; rw [List.length_map]; exact List.length_filter_le _ _
theorem loads_eq {s : Int} (h1 : ¬ s < 1) (h2 : ¬ 4096 < s) (m : List (List Int)) (round : Int) : loadsL s m round = ones (cntL s.toNat (setsI m round)) := by
  unfold loadsL
  rw [if_neg (by omega)]
  rfl
theorem rLoads {a b d e : Int} {m : List (List Int)} {round : Int} {S : Nat} (hm : m.length ≤ 5000) (h1 : 1 ≤ S) (h2 : S ≤ 4096) : ∀ B A : List (List Int), A ++ B = m →
    Runs I27 (tmsLoads.map Tm.pre) ssLoads 1 [{ i := a }, { i := b }, { i := (S : Int) }, { i := d }, { i := e }, { l := m }, { i := round }, { l := ones (cntL S (setsI A round)) }, { i := (A.length : Int) }] [{ l := ones (cntL S (setsI m round)) }]
  | B, A, hAB => by
    have hlen : A.length + B.length = m.length := by rw [← hAB, List.length_append]
    have hsl := setsI_len A round
    refine Runs.step rfl ?_ ?_
    · simp only [tmsLoads, List.map_cons, List.getD_cons_zero, List.getD_cons_succ, holds_cons_iff, E.den, BiO.den, UnO.den, decide_eq_true_eq, beq_iff_eq, ones_len, cntL_len]
      exact ⟨trivial, by omega, by omega, by omega, by omega, by omega, Holds.nil⟩
    cases B with
    | nil =>
      rw [List.append_nil] at hAB
      subst hAB
      refine br_f ?_ rfl
      simp only [E.den, BiO.den, UnO.den, List.getD_cons_zero, List.getD_cons_succ, decide_eq_false_iff_not]
      omega
    | cons x B =>
      have hget : m.getD A.length [] = x := by rw [← hAB]; exact getD_at
      have ih := rLoads (a := a) (b := b) (d := d) (e := e) (round := round) hm h1 h2 B (A ++ [x]) (by rw [List.append_assoc]; exact hAB)
      rw [setsI_snoc, List.length_append, List.length_cons, List.length_nil, Nat.zero_add, Int.natCast_add, Int.natCast_one] at ih
      refine br_t ?_ ?_
      · simp only [E.den, BiO.den, UnO.den, List.getD_cons_zero, List.getD_cons_succ, decide_eq_true_eq]; simp at hlen; omega
      simp only [StOk, E.den, BiO.den, UnO.den, TeO.den, List.map_cons, List.map_nil, List.getD_cons_zero, List.getD_cons_succ, Int.toNat_natCast, hget, show Int.toNat 0 = 0 from rfl, show Int.toNat 4 = 4 from rfl, beq_iff_eq, beq_eq_false_iff_ne, decide_eq_true_eq, decide_eq_false_iff_not, get_ones]
      refine ⟨fun h => ⟨fun q0 => ⟨fun q1 => ?_, fun q1 => ?_⟩, fun q0 => ?_⟩, fun h => ?_⟩
      · rw [if_pos h] at ih
        obtain ⟨q, hq⟩ := int_nat q0
        rw [hq] at ih ⊢
        have hqS : q < S := by omega
        have hc : (setsI A round).count (q : Int) ≤ (setsI A round).length := List.count_le_length
        rw [Int.toNat_natCast, cntL_get hqS, w64 (by omega) (by omega), set_ones (by rw [cntL_len]; exact hqS), cntL_in hqS]
        exact ih
      · rw [if_pos h, cntL_out (by omega)] at ih; exact ih
      · rw [if_pos h, cntL_out (by omega)] at ih; exact ih
      · rw [if_neg h, List.append_nil] at ih; exact ih
theorem vLoads : cLoads.Valid (cx [] []) I27 := by
  refine re (Ctr.valid_run resp27 (glIn _ _) (fun c hc => by cases hc) (by decide) (by decide) (by kernel_rfl) rfl sLoads [.i, .i, .i, .i, .i, .l, .i] [.l] (by decide) ?_)
  intro ρ0 hρ hpre _
  obtain ⟨a, b, s, d, e, m, x, rfl⟩ := seven_m hρ
  have hp := hpre
  simp only [cLoads, most, holds_cons_iff, E.den, BiO.den, UnO.den, List.getD_cons_zero, List.getD_cons_succ, decide_eq_true_eq] at hp
  have h1 : (m.length : Int) ≤ 5000 := hp.1
  refine ⟨[{ l := loadsL s m x }], Runs.step rfl hpre ?_, rfl⟩
  simp only [StOk, E.den, BiO.den, List.map_cons, List.map_nil, List.getD_cons_zero, List.getD_cons_succ, decide_eq_true_eq, decide_eq_false_iff_not]
  refine ⟨fun q => by rw [loadsL, if_pos (Or.inl q)], fun q => ⟨fun q' => by rw [loadsL, if_pos (Or.inr q')], fun q' => ?_⟩⟩
  rw [loads_eq q q']
  obtain ⟨S, rfl⟩ := int_nat (x := s) (by omega)
  have := rLoads (a := a) (b := b) (d := d) (e := e) (round := x) (S := S) (show m.length ≤ 5000 by omega) (by omega) (by omega) m [] rfl
  have e0 : ones (cntL S (setsI [] x)) = List.replicate S [0] := by
    unfold ones cntL setsI
    apply List.ext_getElem?
    intro i
    by_cases hi : i < S <;> simp [hi]
  rw [e0] at this
  exact this

/-! ### Idle -/
theorem rIdle {m L : List (List Int)} (hm : m.length ≤ 5000) (hL : L.length ≤ 10000) : ∀ f i : Nat, i + f = L.length →
    Runs I27 (tmsIdle.map Tm.pre) ssIdle 1 [{ l := m }, { l := ones (((List.range i).filter fun q => (L.getD q []).getD 0 0 == 0).map fun (q : Nat) => (q : Int)) }, { l := L }, { i := (L.length : Int) }, { i := (i : Int) }] [{ l := ones (((List.range L.length).filter fun q => (L.getD q []).getD 0 0 == 0).map fun (q : Nat) => (q : Int)) }]
  | f, i, hf => by
    have hfl : ((List.range i).filter fun q => (L.getD q []).getD 0 0 == 0).length ≤ i := by
      have := List.length_filter_le (fun q => (L.getD q []).getD 0 0 == 0) (List.range i)
      rwa [List.length_range] at this
    refine Runs.step rfl ?_ ?_
    · simp only [tmsIdle, List.map_cons, List.getD_cons_zero, List.getD_cons_succ, holds_cons_iff, E.den, BiO.den, UnO.den, decide_eq_true_eq, beq_iff_eq]
      exact ⟨trivial, by omega, Holds.nil⟩
    · simp only [StOk, E.den, BiO.den, UnO.den, TeO.den, List.map_cons, List.map_nil, List.getD_cons_zero, List.getD_cons_succ, Int.toNat_natCast, show Int.toNat 0 = 0 from rfl, beq_iff_eq, beq_eq_false_iff_ne, holds_cons_iff, holds_nil_iff, decide_eq_true_eq, decide_eq_false_iff_not, ones_len, List.length_map]
      refine ⟨fun hlt => ⟨⟨by omega, trivial⟩, fun _ => ?_⟩, fun hge => ?_⟩
      · cases f with
        | zero => omega
        | succ f =>
          have ih := rIdle hm hL f (i + 1) (by omega)
          rw [List.range_succ, List.filter_append, List.map_append, ones_app, Int.natCast_add, Int.natCast_one] at ih
          rw [w64 (x := (i : Int) + 1) (by omega) (by omega)]
          refine ⟨fun q => ⟨⟨by omega, trivial⟩, fun _ => ?_⟩, fun q => ?_⟩
          · rw [show ((List.filter (fun q => (L.getD q []).getD 0 0 == 0) [i])) = [i] from by rw [List.filter_cons, if_pos (beq_iff_eq.2 q)]; rfl] at ih
            exact ih
          · rw [show ((List.filter (fun q => (L.getD q []).getD 0 0 == 0) [i])) = [] from by rw [List.filter_cons, if_neg (fun h => q (beq_iff_eq.1 h))]; rfl, List.map_nil] at ih
            rw [show ones [] = [] from rfl, List.append_nil] at ih
            exact ih
      · rw [show i = L.length from by omega]
theorem loads_len (s : Int) (m : List (List Int)) (x : Int) : (loadsL s m x).length ≤ 4096 := by
  unfold loadsL
  split
  · simp
  · rw [ones_len, List.length_map, List.length_range]; omega
theorem vIdle : cIdle.Valid (cx [] []) I27 := by
  refine re (Ctr.valid_run resp27 (glIn _ _) (allOf (.cons vLoads .nil)) (by decide) (by decide) (by kernel_rfl) rfl sIdle [.i, .i, .i, .i, .i, .l, .i] [.l] (by decide) ?_)
  intro ρ0 hρ hpre _
  obtain ⟨a, b, s, d, e, m, x, rfl⟩ := seven_m hρ
  have hp := hpre
  simp only [cIdle, most, holds_cons_iff, E.den, BiO.den, UnO.den, List.getD_cons_zero, List.getD_cons_succ, decide_eq_true_eq] at hp
  have h1 : (m.length : Int) ≤ 5000 := hp.1
  refine ⟨[{ l := idleL s m x }], Runs.step rfl hpre ?_, rfl⟩
  have hl := loads_len s m x
  exact rIdle (m := m) (L := loadsL s m x) (by omega) (by omega) (loadsL s m x).length 0 (by omega)

/-! ### Copies -/
theorem copiesAt_le : ∀ (B pre : List (List Int)) (most : Nat), most ≤ pre.length → copiesAt pre B most ≤ pre.length + B.length
  | [], pre, most, h => by simpa [copiesAt] using h
  | x :: B, pre, most, h => by
    unfold copiesAt
    have hc : (pre ++ [standKey x]).count (standKey x) ≤ (pre ++ [standKey x]).length := List.count_le_length
    have := copiesAt_le B (pre ++ [standKey x]) (max most ((pre ++ [standKey x]).count (standKey x))) (by rw [List.length_append] at hc ⊢; simp only [List.length_cons, List.length_nil] at hc ⊢; omega)
    rw [List.length_append] at this
    simp only [List.length_cons, List.length_nil] at this ⊢
    omega
theorem rCopies {m : List (List Int)} (hm : m.length ≤ 5000) : ∀ (B A : List (List Int)), A ++ B = m → ∀ (mp : List (List Int)) (mst : Nat), Cnt mp (A.map standKey) → mst ≤ A.length →
    Runs I27 (tmsCopies.map Tm.pre) ssCopies 1 [{ l := m }, { l := mp }, { i := (mst : Int) }, { i := (A.length : Int) }] [{ i := (copiesAt (A.map standKey) B mst : Nat) }]
  | B, A, hAB, mp, mst, hc, hmst => by
    have hlen : A.length + B.length = m.length := by rw [← hAB, List.length_append]
    refine Runs.step rfl ?_ ?_
    · simp only [tmsCopies, List.map_cons, List.getD_cons_zero, List.getD_cons_succ, holds_cons_iff, E.den, BiO.den, UnO.den, decide_eq_true_eq]
      exact ⟨by omega, by omega, by omega, by omega, Holds.nil⟩
    cases B with
    | nil =>
      refine br_f ?_ rfl
      simp only [E.den, BiO.den, UnO.den, List.getD_cons_zero, List.getD_cons_succ, decide_eq_false_iff_not]
      simp at hlen; omega
    | cons x B =>
      have hget : m.getD A.length [] = x := by rw [← hAB]; exact getD_at
      have hlA : (A.map standKey).length ≤ 5000 := by rw [List.length_map]; omega
      have hb := hc.bump (by omega) (x.getD 0 0) (x.getD 4 0)
      have hkey : standKey x = [x.getD 0 0, x.getD 4 0] := rfl
      have hcnt : cntAt (bump mp (x.getD 0 0) (x.getD 4 0)) [x.getD 0 0, x.getD 4 0] = (((A.map standKey ++ [standKey x]).count (standKey x) : Nat) : Int) := by rw [hkey]; exact hb _ rfl
      have hcl : (A.map standKey ++ [standKey x]).count (standKey x) ≤ (A.map standKey ++ [standKey x]).length := List.count_le_length
      rw [List.length_append, List.length_map, List.length_singleton] at hcl
      have ih := rCopies hm B (A ++ [x]) (by rw [List.append_assoc]; exact hAB) (bump mp (x.getD 0 0) (x.getD 4 0)) (max mst ((A.map standKey ++ [standKey x]).count (standKey x))) (by rw [List.map_append]; exact hb) (by rw [List.length_append, List.length_singleton]; omega)
      rw [List.map_append, List.map_cons, List.map_nil, List.length_append, List.length_cons, List.length_nil, Nat.zero_add, Int.natCast_add, Int.natCast_one] at ih
      refine br_t ?_ ?_
      · simp only [E.den, BiO.den, UnO.den, List.getD_cons_zero, List.getD_cons_succ, decide_eq_true_eq]; simp at hlen; omega
      simp only [StOk, E.den, BiO.den, UnO.den, TeO.den, List.map_cons, List.map_nil, List.getD_cons_zero, List.getD_cons_succ, Int.toNat_natCast, hget, show Int.toNat 0 = 0 from rfl, show Int.toNat 2 = 2 from rfl, show Int.toNat 4 = 4 from rfl, cntAt_def', bump_def]
      rw [hcnt]
      have emax : (if (((A.map standKey ++ [standKey x]).count (standKey x) : Nat) : Int) > (mst : Int) then (((A.map standKey ++ [standKey x]).count (standKey x) : Nat) : Int) else (mst : Int)) = ((max mst ((A.map standKey ++ [standKey x]).count (standKey x)) : Nat) : Int) := by split <;> omega
      rw [emax]
      exact ih
theorem vCopies : cCopies.Valid (cx [] []) I27 := by
  refine re (Ctr.valid_run resp27 (glIn _ _) (fun c hc => by cases hc) (by decide) (by decide) (by kernel_rfl) rfl sCopies [.i, .i, .i, .i, .i, .l] [.i] (by decide) ?_)
  intro ρ0 hρ hpre _
  obtain ⟨a, b, c, d, e, m, rfl⟩ := six_m hρ
  have hp := hpre
  simp only [cCopies, most, holds_cons_iff, E.den, BiO.den, UnO.den, List.getD_cons_zero, List.getD_cons_succ, decide_eq_true_eq] at hp
  have h1 : (m.length : Int) ≤ 5000 := hp.1
  refine ⟨[{ i := copiesV m }], Runs.step rfl hpre ?_, rfl⟩
  exact rCopies (m := m) (by omega) m [] rfl [] 0 Cnt.nil (Nat.le_refl _)
end Go.Proofs.Ytiohgpifeamkhaa
