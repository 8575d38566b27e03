/- Chapter 26: lists compared; what the statements' helpers say. -/
import Derived.Test.YtohelfcinfpmaaaC26Sa
import Derived.Test.YtohelfcinfpmaaaC26X
import Derived.Test.YtohelfcinfpmaaaC26T
namespace Go.Proofs.Ytohelfcinfpmaaa
open Go Go.Sx Go.Proofs.C26

theorem eqR_iff {w : Nat} {a b : List (List Int)} : eqR w a b = true ↔ a.length = b.length ∧ ∀ i, i < a.length → ∀ c, c < w → (a.getD i []).getD c 0 = (b.getD i []).getD c 0 := by
  unfold eqR
  simp only [Bool.and_eq_true, List.all_eq_true, List.mem_range, beq_iff_eq]
theorem eqR_refl (w : Nat) (a : List (List Int)) : eqR w a a = true := eqR_iff.2 ⟨rfl, fun _ _ _ _ => rfl⟩

theorem two_ll {ρ0 : List U} (h : ρ0 = normU [.l, .l] ρ0) : ∃ a b : List (List Int), ρ0 = [{ l := a }, { l := b }] := ⟨_, _, h⟩

theorem rKEq2 {a b : List (List Int)} (hl : a.length ≤ 100) (h : eqR 2 a b = true) : ∀ f i : Nat, i + f = a.length → Runs I26 (tmsKEq2.map Tm.pre) ssKEq2 1 [{ l := a }, { l := b }, { i := (i : Int) }] [{ b := true }]
  | f, i, hi => by
    obtain ⟨h1, h2⟩ := eqR_iff.1 h
    refine Runs.step rfl ?_ ?_
    · simp only [tmsKEq2, List.map_cons, List.getD_cons_zero, List.getD_cons_succ, holds_cons_iff, E.den, BiO.den, UnO.den, decide_eq_true_eq, beq_iff_eq]
      (repeat' refine And.intro ?_ ?_) <;> first | exact h | exact Holds.nil | omega
    · simp only [StOk, E.den, BiO.den, UnO.den, TeO.den, List.map_cons, List.map_nil, List.getD_cons_zero, List.getD_cons_succ, decide_eq_true_eq, decide_eq_false_iff_not, Int.toNat_natCast, Int.toNat_zero, show Int.toNat 1 = 1 from rfl, Bool.not_eq_true', Bool.not_eq_false', Bool.and_eq_true, Bool.and_eq_false_iff, beq_iff_eq, beq_eq_false_iff_ne]
      refine ⟨fun hlt => ⟨fun q => ?_, fun _ => ?_⟩, fun _ => trivial⟩
      · have e0 := h2 i (by omega) 0 (by omega)
        have e1 := h2 i (by omega) 1 (by omega)
        omega
      · cases f with
        | zero => omega
        | succ f => exact rKEq2 hl h f (i + 1) (by omega)

theorem vKEq2 : cKEq2.Valid (cx [] [25]) I26 := by
  refine Ctr.valid_run resp26 (glIn _ _) (fun c hc => by cases hc) (by decide) (by decide) (by kernel_rfl) rfl sKEq2 [.l, .l] [.b] (by decide) ?_
  intro ρ0 hρ hpre _
  obtain ⟨a, b, rfl⟩ := two_ll hρ
  have hp := hpre
  simp only [cKEq2, cEq2, few, holds_cons_iff, E.den, BiO.den, UnO.den, List.getD_cons_zero, List.getD_cons_succ, decide_eq_true_eq] at hp
  obtain ⟨h1, h2, _⟩ := hp
  have h2' : eqR 2 a b = true := h2
  refine ⟨[{ b := true }], Runs.step rfl hpre ?_, rfl⟩
  simp only [StOk, E.den, BiO.den, UnO.den, List.map_cons, List.map_nil, List.getD_cons_zero, List.getD_cons_succ, Bool.not_eq_true', Bool.not_eq_false', beq_iff_eq, beq_eq_false_iff_ne]
  have hl := (eqR_iff.1 h2').1
  refine ⟨fun q => ?_, fun _ => ?_⟩
  · omega
  · exact rKEq2 (by omega) h2' a.length 0 (by omega)

theorem rKRows {a b : List (List Int)} (hl : a.length ≤ 5000) (hlen : a.length = b.length) : ∀ f i : Nat, i + f = a.length → (∀ j, j < i → ∀ c, c < 5 → (a.getD j []).getD c 0 = (b.getD j []).getD c 0) →
    Runs I26 (tmsKRows.map Tm.pre) ssKRows 1 [{ l := a }, { l := b }, { i := (i : Int) }] [{ b := eqR 5 a b }]
  | f, i, hi, hj => by
    refine Runs.step rfl ?_ ?_
    · simp only [tmsKRows, List.map_cons, List.getD_cons_zero, List.getD_cons_succ, holds_cons_iff, E.den, BiO.den, UnO.den, decide_eq_true_eq, beq_iff_eq]
      (repeat' refine And.intro ?_ ?_) <;> first | exact Holds.nil | omega
    · simp only [StOk, E.den, BiO.den, UnO.den, TeO.den, List.map_cons, List.map_nil, List.getD_cons_zero, List.getD_cons_succ, decide_eq_true_eq, decide_eq_false_iff_not, Int.toNat_natCast, Int.toNat_zero, show Int.toNat 1 = 1 from rfl, show Int.toNat 2 = 2 from rfl, show Int.toNat 3 = 3 from rfl, show Int.toNat 4 = 4 from rfl, Bool.not_eq_true', Bool.not_eq_false', Bool.and_eq_true, Bool.and_eq_false_iff, beq_iff_eq, beq_eq_false_iff_ne]
      refine ⟨fun hlt => ⟨fun q => ?_, fun q => ?_⟩, fun hge => ?_⟩
      · have : eqR 5 a b ≠ true := by
          intro h
          have h2 := (eqR_iff.1 h).2 i (by omega)
          have e0 := h2 0 (by omega)
          have e1 := h2 1 (by omega)
          have e2 := h2 2 (by omega)
          have e3 := h2 3 (by omega)
          have e4 := h2 4 (by omega)
          omega
        rw [Bool.eq_false_iff.2 this]
      · cases f with
        | zero => omega
        | succ f =>
          refine rKRows hl hlen f (i + 1) (by omega) fun j hj' c hc => ?_
          rcases Nat.lt_or_eq_of_le (Nat.le_of_lt_succ hj') with h | rfl
          · exact hj j h c hc
          · obtain ⟨q0, q1, q2, q3, q4⟩ := q
            match c, hc with
            | 0, _ => exact q0
            | 1, _ => exact q1
            | 2, _ => exact q2
            | 3, _ => exact q3
            | 4, _ => exact q4
      · have : eqR 5 a b = true := eqR_iff.2 ⟨hlen, fun j hj' c hc => hj j (by omega) c hc⟩
        rw [this]

theorem vKRows : cKRows.Valid (cx [] [27]) I26 := by
  refine Ctr.valid_run resp26 (glIn _ _) (fun c hc => by cases hc) (by decide) (by decide) (by kernel_rfl) rfl sKRows [.l, .l] [.b] (by decide) ?_
  intro ρ0 hρ hpre _
  obtain ⟨a, b, rfl⟩ := two_ll hρ
  have hp := hpre
  simp only [cKRows, cRows, most, holds_cons_iff, E.den, BiO.den, UnO.den, List.getD_cons_zero, decide_eq_true_eq] at hp
  obtain ⟨h1, _⟩ := hp
  refine ⟨[{ b := eqR 5 a b }], Runs.step rfl hpre ?_, rfl⟩
  simp only [StOk, E.den, BiO.den, UnO.den, List.map_cons, List.map_nil, List.getD_cons_zero, List.getD_cons_succ, Bool.not_eq_true', Bool.not_eq_false', beq_iff_eq, beq_eq_false_iff_ne]
  refine ⟨fun q => ?_, fun q => ?_⟩
  · have : eqR 5 a b ≠ true := fun h => by have := (eqR_iff.1 h).1; omega
    rw [Bool.eq_false_iff.2 this]
  · exact rKRows (by omega) (by omega) a.length 0 (by omega) (fun j h => by omega)

theorem vKSame : cKSame.Valid (cx [cKRows] []) I26 := by
  refine Ctr.valid_run resp26 (glIn _ _) (allOf (.cons (re vKRows) .nil)) (by decide) (by decide) (by kernel_rfl) rfl sKSame [.i, .i, .i, .i, .i, .l, .i, .i, .i, .i, .i, .l] [.b] (by decide) ?_
  intro ρ0 hρ hpre _
  have hp := hpre
  simp only [cKSame, cSame, most, holds_cons_iff] at hp
  obtain ⟨_, _, _, _, _, _, h2, _⟩ := hp
  refine ⟨[{ b := true }], Runs.step rfl hpre ?_, rfl⟩
  have h3 : eqR 5 (ρ0.getD 5 {}).l (ρ0.getD 11 {}).l = true := h2
  show [({ b := eqR 5 (ρ0.getD 5 {}).l (ρ0.getD 11 {}).l } : U)] = [{ b := true }]
  rw [h3]

/-! ### the same as nothing -/
theorem rKRowsN {a : List (List Int)} (h : a = []) : ∃ out, Runs I26 (tmsKRowsN.map Tm.pre) ssKRowsN 0 [{ l := a }] out ∧ out = [{ b := true }] := by
  subst h
  exact ⟨_, runs_of (by kernel_rfl : decide (goN I26 (tmsKRowsN.map Tm.pre) ssKRowsN 4 0 [{ l := [] }] = some [{ b := true }]) = true), rfl⟩
theorem vKRowsN : cKRowsN.Valid (cx [] [27]) I26 := by
  refine Ctr.valid_run resp26 (glIn _ _) (fun c hc => by cases hc) (by decide) (by decide) (by kernel_rfl) rfl sKRowsN [.l] [.b] (by decide) ?_
  intro ρ0 hρ hpre _
  obtain ⟨a, rfl⟩ : ∃ a : List (List Int), ρ0 = [{ l := a }] := ⟨_, hρ⟩
  have hp := hpre
  simp only [cKRowsN, holds_cons_iff, E.den, BiO.den, UnO.den, List.getD_cons_zero, beq_iff_eq] at hp
  obtain ⟨out, h1, h2⟩ := rKRowsN (a := a) (by cases a with | nil => rfl | cons x l => simp at hp; omega)
  exact ⟨out, h1, by rw [h2]; rfl⟩
theorem vKSameN : cKSameN.Valid (cx [cKRowsN] []) I26 := by
  refine Ctr.valid_run resp26 (glIn _ _) (allOf (.cons (re vKRowsN) .nil)) (by decide) (by decide) (by kernel_rfl) rfl sKSameN [.i, .i, .i, .i, .i, .l, .i, .i, .i, .i, .i] [.b] (by decide) ?_
  intro ρ0 hρ hpre _
  exact ⟨[{ b := true }], Runs.step rfl hpre rfl, rfl⟩

/-! ### how long the lists are -/
theorem startL_len (t : Int) : (startL t).length ≤ 23 := by
  unfold startL
  split
  · rw [List.length_map, List.length_range]; omega
  · exact Nat.zero_le _
theorem fromR_len {n k : Int} {l : List (List Int)} : (fromR n k l).length ≤ 47 * (l.length + 1) := by
  unfold fromR
  split
  · exact Nat.zero_le _
  · rename_i h
    rw [rowsR_len]
    apply Nat.mul_le_mul_right
    unfold fromE at h
    split at h
    · rename_i h1; exact (h h1).elim
    · rename_i h1
      obtain ⟨_, _, h2, _⟩ := checkE_0 (Classical.not_not.1 h1)
      split at h
      · omega
      · split at h <;> omega
theorem makeR_len (t k : Int) : (makeR t k).length ≤ 5000 := by
  unfold makeR
  split
  · exact Nat.zero_le _
  · have h1 := @fromR_len (2 * t - 1) k (startL t)
    have h2 := startL_len t
    have h3 : 47 * ((startL t).length + 1) ≤ 47 * 24 := Nat.mul_le_mul_left _ (by omega)
    omega

/-! ### movements of the office and of the reference -/
def makeOut (t k : Int) : List U := [{ i := makeF 0 t k }, { i := makeF 1 t k }, { i := makeF 2 t k }, { i := makeF 3 t k }, { i := makeF 4 t k }, { l := makeR t k }, { i := makeE t k }]
theorem startE_0 {t : Int} (h : startE t = 0) : 2 ≤ t ∧ t ≤ 24 := by
  unfold startE at h
  split at h
  · assumption
  · cases h

theorem two_ii {ρ0 : List U} (h : ρ0 = normU [.i, .i] ρ0) : ∃ a b : Int, ρ0 = [{ i := a }, { i := b }] := ⟨_, _, h⟩
theorem makeE_not {t k : Int} (h : startE t ≠ 0) : makeE t k = startE t := by
  unfold makeE
  rw [if_pos h]
  unfold startE at h ⊢
  split
  · rename_i h1; rw [if_pos h1] at h; exact (h rfl).elim
  · rfl
theorem make_out {t k : Int} (h : startE t = 0) : [({ i := fromF 0 (2 * t - 1) k (startL t) } : U), { i := fromF 1 (2 * t - 1) k (startL t) }, { i := fromF 2 (2 * t - 1) k (startL t) }, { i := fromF 3 (2 * t - 1) k (startL t) }, { i := fromF 4 (2 * t - 1) k (startL t) }, { l := fromR (2 * t - 1) k (startL t) }, { i := fromE (2 * t - 1) k (startL t) }] = makeOut t k := by
  unfold makeOut makeF makeR makeE
  simp only [h, ne_eq, not_true_eq_false, if_false]

theorem vMake : cMake.Valid (cx [cStart, cFrom] []) I26 := by
  refine Ctr.valid_run resp26 (glIn _ _) (allOf (.cons (re vStart) (.cons (re vFrom) .nil))) (by decide) (by decide) (by kernel_rfl) rfl sMake [.i, .i] [.i, .i, .i, .i, .i, .l, .i] (by decide) ?_
  intro ρ0 hρ hpre _
  obtain ⟨t, k, rfl⟩ := two_ii hρ
  refine ⟨makeOut t k, Runs.step rfl hpre ?_, rfl⟩
  simp only [StOk, E.den, BiO.den, UnO.den, I26, List.map_cons, List.map_nil, List.getD_cons_zero, List.getD_cons_succ, decide_eq_true_eq, beq_iff_eq, beq_eq_false_iff_ne, Bool.not_eq_true', Bool.not_eq_false', holds_cons_iff, holds_nil_iff]
  refine ⟨fun a => ?_, fun a => ⟨⟨by have := startL_len t; omega, trivial⟩, fun _ => ?_⟩⟩
  · unfold makeOut makeF makeR
    rw [makeE_not a]
    simp only [if_pos a]
  · have := startE_0 a
    rw [w64 (show _ ≤ 2 * t by omega) (by omega), w64 (show _ ≤ 2 * t + -1 by omega) (by omega), show 2 * t + -1 = 2 * t - 1 from rfl]
    exact make_out a

theorem vRMake : cRMake.Valid (cx [cRStart, cRFrom] []) I26 := by
  refine Ctr.valid_run resp26 (glIn _ _) (allOf (.cons (re vRStart) (.cons (re vRFrom) .nil))) (by decide) (by decide) (by kernel_rfl) rfl sRMake [.i, .i] [.i, .i, .i, .i, .i, .l, .i] (by decide) ?_
  intro ρ0 hρ hpre _
  obtain ⟨t, k, rfl⟩ := two_ii hρ
  refine ⟨makeOut t k, Runs.step rfl hpre ?_, rfl⟩
  simp only [StOk, E.den, BiO.den, UnO.den, I26, List.map_cons, List.map_nil, List.getD_cons_zero, List.getD_cons_succ, decide_eq_true_eq, beq_iff_eq, beq_eq_false_iff_ne, Bool.not_eq_true', Bool.not_eq_false', holds_cons_iff, holds_nil_iff]
  refine ⟨fun a => ?_, fun a => ⟨⟨by have := startL_len t; omega, trivial⟩, fun _ => ?_⟩⟩
  · unfold makeOut makeF makeR
    rw [makeE_not a]
    simp only [if_pos a]
  · have := startE_0 a
    rw [w64 (show _ ≤ 2 * t by omega) (by omega), w64 (show _ ≤ 2 * t + -1 by omega) (by omega), show 2 * t + -1 = 2 * t - 1 from rfl]
    exact make_out a
end Go.Proofs.Ytohelfcinfpmaaa
