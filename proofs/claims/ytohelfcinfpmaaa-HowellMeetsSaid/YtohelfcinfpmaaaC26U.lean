/- Chapter 26: how often a number is there; the check of a starter. -/
import Derived.Test.YtohelfcinfpmaaaC26R
namespace Go.Proofs.Ytohelfcinfpmaaa
open Go Go.Sx Go.Proofs.C26

theorem occ1_le (n x y what k : Int) : occ1 n x y what k ≤ 2 := by
  unfold occ1
  repeat' split
  all_goals omega

theorem occ_take {n : Int} {l : List (List Int)} {what k : Int} {i : Nat} (h : i < l.length) : occ n (l.take (i + 1)) what k = occ n (l.take i) what k + occ1 n ((l.getD i []).getD 0 0) ((l.getD i []).getD 1 0) what k := by
  unfold occ
  rw [List.take_succ_eq_append_getElem h, List.map_append, List.sum_append]
  simp [List.getD_eq_getElem?_getD, List.getElem?_eq_getElem h]

theorem occ_take_le (n : Int) (l : List (List Int)) (what k : Int) : ∀ i, i ≤ l.length → occ n (l.take i) what k ≤ 2 * i
  | 0, _ => by simp [occ]
  | i + 1, h => by
    have := occ_take_le n l what k i (by omega)
    have := occ1_le n ((l.getD i []).getD 0 0) ((l.getD i []).getD 1 0) what k
    rw [occ_take (by omega)]
    omega

theorem occ_all (n : Int) (l : List (List Int)) (what k : Int) : occ n (l.take l.length) what k = occ n l what k := by rw [List.take_length]

theorem rTimes {n : Int} {l : List (List Int)} {k what : Int} (h3 : 3 ≤ n) (h47 : n ≤ 47) (hl : l.length ≤ 100) (he : (l.all fun r => r.all fun x => decide (0 ≤ x) && decide (x ≤ 47)) = true) : ∀ f i : Nat, i + f = l.length →
    Runs I26 (tmsTimes.map Tm.pre) ssTimes 1 [{ i := n }, { l := l }, { i := k }, { i := what }, { i := (occ n (l.take i) what k : Int) }, { i := (i : Int) }] [{ i := (occ n l what k : Int) }]
  | f, i, hi => by
    refine Runs.step rfl ?_ ?_
    · simp only [tmsTimes, List.map_cons, List.getD_cons_zero, List.getD_cons_succ, holds_cons_iff, E.den, BiO.den, UnO.den, TeO.den, decide_eq_true_eq]
      refine ⟨?_, ?_, ?_, ?_, ?_, he, Holds.nil⟩ <;> omega
    · simp only [StOk, E.den, BiO.den, UnO.den, TeO.den, List.map_cons, List.map_nil, List.getD_cons_zero, List.getD_cons_succ, decide_eq_true_eq, decide_eq_false_iff_not, beq_iff_eq, beq_eq_false_iff_ne, Int.toNat_natCast, Int.toNat_zero, show Int.toNat 1 = 1 from rfl]
      have hb := occ_take_le n l what k i (by omega)
      refine ⟨fun hlt => ?_, fun hge => ?_⟩
      · cases f with
        | zero => omega
        | succ f =>
          have ih := rTimes (k := k) (what := what) h3 h47 hl he f (i + 1) (by omega)
          rw [occ_take (by omega)] at ih
          generalize (l.getD i []).getD 0 0 = x at ih ⊢
          generalize (l.getD i []).getD 1 0 = y at ih ⊢
          generalize occ n (l.take i) what k = c at ih hb ⊢
          have e1 : x + n - y = x - y + n := by omega
          have e2 : y + n - x = y - x + n := by omega
          have w1 : IntKind.wrap .i64 ((c : Int) + 1) = ((c + 1 : Nat) : Int) := w64 (by omega) (by omega)
          have w2 : IntKind.wrap .i64 (((c + 1 : Nat) : Int) + 1) = ((c + 2 : Nat) : Int) := w64 (by omega) (by omega)
          rw [e1, e2, w1, w2]
          unfold occ1 at ih
          refine ⟨fun q0 => ?_, fun q0 => ⟨fun q1 => ?_, fun q1 => ⟨fun q2 => ?_, fun q2 => ?_⟩⟩⟩
          · rw [if_pos q0] at ih
            refine ⟨fun a => ⟨fun b => ?_, fun b => ?_⟩, fun a => ⟨fun b => ?_, fun b => ?_⟩⟩
            · rw [if_pos a, if_pos b] at ih; exact ih
            · rw [if_pos a, if_neg b] at ih; exact ih
            · rw [if_neg a, if_pos b] at ih; exact ih
            · rw [if_neg a, if_neg b] at ih; exact ih
          · rw [if_neg q0, if_pos q1] at ih
            refine ⟨fun a => ⟨fun b => ?_, fun b => ?_⟩, fun a => ⟨fun b => ?_, fun b => ?_⟩⟩
            · rw [if_pos a, if_pos b] at ih; exact ih
            · rw [if_pos a, if_neg b] at ih; exact ih
            · rw [if_neg a, if_pos b] at ih; exact ih
            · rw [if_neg a, if_neg b] at ih; exact ih
          · rw [if_neg q0, if_neg q1, if_pos q2] at ih
            refine ⟨fun a => ?_, fun a => ?_⟩
            · rw [if_pos a] at ih; exact ih
            · rw [if_neg a] at ih; exact ih
          · rw [if_neg q0, if_neg q1, if_neg q2] at ih
            exact ih
      · obtain rfl : i = l.length := by omega
        rw [occ_all]

theorem vTimes : cTimes.Valid (cx [] [38]) I26 := by
  refine Ctr.valid_run resp26 (glIn _ _) (fun c hc => by cases hc) (by decide) (by decide) (by kernel_rfl) rfl sTimes [.i, .l, .i, .i] [.i] (by decide) ?_
  intro ρ0 hρ hpre _
  obtain ⟨n, l, k, what, rfl⟩ : ∃ (n : Int) (l : List (List Int)) (k what : Int), ρ0 = [{ i := n }, { l := l }, { i := k }, { i := what }] := ⟨_, _, _, _, hρ⟩
  have hp := hpre
  simp only [cTimes, few, holds_cons_iff, E.den, BiO.den, UnO.den, TeO.den, List.getD_cons_zero, List.getD_cons_succ, decide_eq_true_eq] at hp
  obtain ⟨h1, h2, h3, h4, _⟩ := hp
  exact ⟨[{ i := (occ n l what k : Int) }], Runs.step rfl hpre (rTimes h1 h2 (by omega) h4 l.length 0 (by omega)), rfl⟩

/-! ### the map of what was seen -/
def cell (m : List (List Int)) (a k : Int) : Int := (m.getD (findRow m [a, k]) []).getD 2 0
def bump (m : List (List Int)) (a k : Int) : List (List Int) := putRow m [a, k] [a, k, IntKind.wrap .i64 (cell m a k + 1)]

theorem cell_nil (a k : Int) : cell [] a k = 0 := rfl
theorem cell_cons (r : List Int) (m : List (List Int)) (a k : Int) : cell (r :: m) a k = if keyIs [a, k] r then r.getD 2 0 else cell m a k := by
  unfold cell
  rw [findRow_cons]
  split <;> simp
theorem cell_put (a k x : Int) : ∀ m : List (List Int), ∀ a' k' : Int, cell (putRow m [a, k] [a, k, x]) a' k' = if a = a' ∧ k = k' then x else cell m a' k'
  | [], a', k' => by
    show cell [[a, k, x]] a' k' = _
    rw [cell_cons, cell_nil]
    by_cases h : a = a' ∧ k = k'
    · obtain ⟨rfl, rfl⟩ := h
      simp [keyIs]
    · rw [if_neg h, if_neg (by simpa [keyIs] using h)]
  | r :: m, a', k' => by
    rw [putRow_cons]
    by_cases hk : keyIs [a, k] r = true
    · rw [if_pos hk, cell_cons, cell_cons]
      by_cases h : a = a' ∧ k = k'
      · obtain ⟨rfl, rfl⟩ := h
        simp [keyIs]
      · rw [if_neg h, if_neg (by simpa [keyIs] using h)]
        have : ¬ keyIs [a', k'] r = true := by
          intro h2
          unfold keyIs at hk h2
          have e1 := eq_of_beq hk
          have e2 := eq_of_beq h2
          have e3 : ([a, k] : List Int) = [a', k'] := e1.symm.trans e2
          simp only [List.cons.injEq, and_true] at e3
          exact h e3
        rw [if_neg this]
    · rw [if_neg hk, cell_cons, cell_cons, cell_put a k x m]
      by_cases h : a = a' ∧ k = k'
      · obtain ⟨rfl, rfl⟩ := h
        rw [if_neg hk, if_pos ⟨rfl, rfl⟩, if_pos ⟨rfl, rfl⟩]
      · rw [if_neg h, if_neg h]
theorem cell_bump (m : List (List Int)) (a k a' k' : Int) : cell (bump m a k) a' k' = if a = a' ∧ k = k' then IntKind.wrap .i64 (cell m a k + 1) else cell m a' k' := cell_put a k _ m a' k'
end Go.Proofs.Ytohelfcinfpmaaa
