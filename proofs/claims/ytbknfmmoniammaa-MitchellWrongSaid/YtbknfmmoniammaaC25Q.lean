/- Chapter 25: the reference's movements; movements with a rover. -/
import Derived.Test.YtbknfmmoniammaaC25P
namespace Go.Proofs.Ytbknfmmoniammaa
open Go Go.Sx Go.Proofs.C25

/-! ### the reference's Make -/
theorem rMod {m : Int} (h1 : 1 ≤ m) (h2 : m ≤ 24) : ∀ (f : Nat) (n : Int), -100 ≤ n → n ≤ 200 → -n ≤ f → Runs I25 (tmsMod.map Tm.pre) ssMod 1 [{ i := n }, { i := m }] [{ i := n % m }]
  | f, n, hn, hn2, hf => by
    refine Runs.step rfl ?_ ?_
    · simp only [tmsMod, List.map_cons, List.getD_cons_zero, List.getD_cons_succ, holds_cons_iff, E.den, BiO.den, decide_eq_true_eq]
      (repeat' refine And.intro ?_ ?_) <;> first | exact Holds.nil | omega
    · simp only [StOk, E.den, BiO.den, List.map_cons, List.map_nil, List.getD_cons_zero, List.getD_cons_succ, decide_eq_true_eq, decide_eq_false_iff_not]
      refine ⟨fun hlt => ?_, fun hge => ?_⟩
      · cases f with
        | zero => omega
        | succ f =>
          have := rMod h1 h2 f (n + m) (by omega) (by omega) (by omega)
          rwa [Int.add_emod_right] at this
      · rw [Int.tmod_eq_emod_of_nonneg (by omega)]
theorem vMod : cMod.Valid (cx [] []) I25 := by
  refine re (Ctr.valid_run resp25 (glIn _ _) (fun c hc => by cases hc) (by decide) (by decide) (by kernel_rfl) rfl sMod [.i, .i] [.i] (by decide) ?_)
  intro ρ0 hρ hpre _
  obtain ⟨n, m, rfl⟩ := two_ii hρ
  have hp := hpre
  simp only [cMod, le', List.cons_append, List.nil_append, holds_cons_iff, E.den, BiO.den, List.getD_cons_zero, List.getD_cons_succ, decide_eq_true_eq] at hp
  obtain ⟨p1, p2, p3, p4, _⟩ := hp
  exact ⟨[{ i := n % m }], Runs.step rfl hpre (rMod p3 p4 (-n).toNat n p1 p2 (by omega)), rfl⟩

theorem four_iiii {ρ0 : List U} (h : ρ0 = normU [.i, .i, .i, .i] ρ0) : ∃ a b c d : Int, ρ0 = [{ i := a }, { i := b }, { i := c }, { i := d }] := ⟨_, _, _, _, h⟩
theorem rowE_eq {t x : Int} (h : 2 ≤ t) (ht : t ≤ 24) : IntKind.wrap .i64 (t + x % t + 1) = t + 1 + x % t := by
  have h1 := Int.emod_nonneg x (b := t) (by omega)
  have h2 := Int.emod_lt_of_pos x (b := t) (by omega)
  rw [w64 (by omega) (by omega), Int.add_right_comm]
theorem vRow : cRow.Valid (cx [] []) I25 := by
  refine re (Ctr.valid_run resp25 (glIn _ _) (allOf (.cons vMod .nil)) (by decide) (by decide) (by kernel_rfl) rfl sRow [.i, .i, .i, .i] [.i, .i, .i, .i, .i] (by decide) ?_)
  intro ρ0 hρ hpre _
  obtain ⟨t, r, j, k, rfl⟩ := four_iiii hρ
  have hp := hpre
  simp only [cRow, le', List.cons_append, List.nil_append, holds_cons_iff, E.den, BiO.den, List.getD_cons_zero, List.getD_cons_succ, decide_eq_true_eq] at hp
  obtain ⟨p1, p2, p3, p4, p5, p6, p7, p8, _⟩ := hp
  obtain ⟨t, rfl⟩ := int_nat (x := t) (by omega)
  obtain ⟨r, rfl⟩ := int_nat (x := r) (by omega)
  obtain ⟨j, rfl⟩ := int_nat (x := j) (by omega)
  obtain ⟨k, rfl⟩ := int_nat (x := k) (by omega)
  refine ⟨[{ i := r }, { i := j }, { i := j + 1 }, { i := (t : Int) + 1 + (pairM t k r j : Nat) }, { i := (setM t k r j : Nat) }], Runs.step rfl hpre ?_, rfl⟩
  simp only [StOk, E.den, BiO.den, UnO.den, List.map_cons, List.map_nil, List.getD_cons_zero, List.getD_cons_succ, decide_eq_true_eq, decide_eq_false_iff_not, beq_iff_eq, beq_eq_false_iff_ne, Int.tdiv_eq_ediv_of_nonneg (show (0 : Int) ≤ t from by omega)]
  have e1 (x : Int) : I25.f2 11 { i := x } { i := (t : Int) } = { i := x % (t : Int) } := rfl
  simp only [e1, rowE_eq (show 2 ≤ (t : Int) from by omega) (show (t : Int) ≤ 24 from by omega), pair_int (show 0 < t from by omega), set_int]
  refine ⟨fun h2 => ⟨fun h => ?_, fun h => ?_⟩, fun h2 => ⟨fun h3 => ⟨fun h => ?_, fun h => ?_⟩, fun h3 => ?_⟩⟩
  · rw [if_pos (show k = 2 ∧ t / 2 ≤ r from by omega), if_neg (show ¬ (k = 3 ∧ t / 2 ≤ j) from by omega), show (j : Int) - r + -1 = j - (r + 1) from by omega]
  · rw [if_neg (show ¬ (k = 2 ∧ t / 2 ≤ r) from by omega), if_neg (show ¬ (k = 3 ∧ t / 2 ≤ j) from by omega)]
  · rw [if_neg (show ¬ (k = 2 ∧ t / 2 ≤ r) from by omega), if_pos (show k = 3 ∧ t / 2 ≤ j from by omega), show (j : Int) + r + 1 = j + 1 + r from by omega]
  · rw [if_neg (show ¬ (k = 2 ∧ t / 2 ≤ r) from by omega), if_neg (show ¬ (k = 3 ∧ t / 2 ≤ j) from by omega)]
  · rw [if_neg (show ¬ (k = 2 ∧ t / 2 ≤ r) from by omega), if_neg (show ¬ (k = 3 ∧ t / 2 ≤ j) from by omega)]

theorem rRMake {t k R : Nat} (h2 : 2 ≤ t) (h24 : t ≤ 24) (hk1 : 1 ≤ k) (hk3 : k ≤ 3) (h1 : 1 ≤ R) (hR : (R : Int) ≤ mostV t k) (hw : wayE t k = 0) (hE : makeE t R k = 0) {c : Int} (hc : c = if (k : Int) = 3 then 2 else 1) : ∀ f r : Nat, r + f = R →
    Runs I25 (tmsRMake.map Tm.pre) ssRMake 1 [{ i := (t : Int) }, { i := (R : Int) }, { i := (k : Int) }, { i := c }, { i := (r : Int) }, { l := rowsM t k r }] (makeOut t R k)
  | f, r, hf => by
    have hm : mostV t k ≤ t := by unfold mostV; rw [if_neg (fun h => h hw)]; split <;> omega
    have hl := rowsM_len t k r
    have hb : r * t ≤ 24 * 24 := Nat.mul_le_mul (by omega) (by omega)
    have hc1 : 1 ≤ c ∧ c ≤ 2 := by rw [hc]; split <;> omega
    have e0 : (I25.f2 0 { i := (t : Int) } { i := (k : Int) }).i = mostV t k := rfl
    have e1 : (I25.f2 1 { i := (t : Int) } { i := (k : Int) }).i = wayE t k := rfl
    refine Runs.step rfl ?_ ?_
    · simp only [tmsRMake, List.map_cons, List.getD_cons_zero, List.getD_cons_succ, holds_cons_iff, E.den, BiO.den, decide_eq_true_eq, beq_iff_eq, e0, e1]
      (repeat' refine And.intro ?_ ?_) <;> first | exact hw | exact Holds.nil | omega | trivial
    · simp only [StOk, E.den, BiO.den, List.map_cons, List.map_nil, List.getD_cons_zero, List.getD_cons_succ, decide_eq_true_eq, decide_eq_false_iff_not]
      refine ⟨fun hlt => ?_, fun hge => ?_⟩
      · cases f with
        | zero => omega
        | succ f =>
          have hrow : ∀ g j : Nat, j + g = t → Runs I25 (tmsRMake.map Tm.pre) ssRMake 2 [{ i := (t : Int) }, { i := (R : Int) }, { i := (k : Int) }, { i := c }, { l := rowsM t k r ++ (List.range j).map (rowM t k r) }, { i := (j : Int) }, { i := (r : Int) }] (makeOut t R k) := by
            intro g
            induction g with
            | zero =>
              intro j hj
              refine Runs.step rfl ?_ ?_
              · simp only [tmsRMake, List.map_cons, List.getD_cons_zero, List.getD_cons_succ, holds_cons_iff, E.den, BiO.den, UnO.den, decide_eq_true_eq, beq_iff_eq, List.length_append, List.length_map, List.length_range, e0, e1]
                (repeat' refine And.intro ?_ ?_) <;> first | exact hw | exact Holds.nil | omega | trivial
              · simp only [StOk, E.den, BiO.den, UnO.den, List.map_cons, List.map_nil, List.getD_cons_zero, List.getD_cons_succ, decide_eq_true_eq, decide_eq_false_iff_not, holds_cons_iff, holds_nil_iff]
                refine ⟨fun hlt => by omega, fun _ => ?_⟩
                rw [show j = t from by omega, ← rowsM_succ, w64 (by omega) (by omega)]
                exact rRMake h2 h24 hk1 hk3 h1 hR hw hE hc f (r + 1) (by omega)
            | succ g ih =>
              intro j hj
              refine Runs.step rfl ?_ ?_
              · simp only [tmsRMake, List.map_cons, List.getD_cons_zero, List.getD_cons_succ, holds_cons_iff, E.den, BiO.den, UnO.den, decide_eq_true_eq, beq_iff_eq, List.length_append, List.length_map, List.length_range, e0, e1]
                (repeat' refine And.intro ?_ ?_) <;> first | exact hw | exact Holds.nil | omega | trivial
              · have ih' := ih (j + 1) (by omega)
                rw [range_map_succ, ← List.append_assoc] at ih'
                simp only [StOk, E.den, BiO.den, UnO.den, List.map_cons, List.map_nil, List.getD_cons_zero, List.getD_cons_succ, decide_eq_true_eq, decide_eq_false_iff_not, holds_cons_iff, holds_nil_iff, List.length_append, List.length_map, List.length_range]
                exact ⟨fun _ => ⟨⟨by omega, by omega, by omega, by omega, by omega, by omega, by omega, trivial⟩, fun _ => ih'⟩, fun hge => by omega⟩
          have := hrow t 0 (by omega)
          rw [List.range_zero, List.map_nil, List.append_nil] at this
          exact this
      · rw [show r = R from by omega]
        exact make_yes (t := (t : Int)) (r := (R : Int)) (k := (k : Int)) hE hc

theorem vRMake : cRMake.Valid (cx [] []) I25 := by
  refine re (Ctr.valid_run resp25 (glIn _ _) (allOf (.cons vRMost (.cons vRow .nil))) (by decide) (by decide) (by kernel_rfl) rfl sRMake [.i, .i, .i] [.i, .i, .i, .i, .i, .l, .i] (by decide) ?_)
  intro ρ0 hρ hpre _
  obtain ⟨t, r, k, rfl⟩ := three_iii hρ
  refine ⟨makeOut t r k, Runs.step rfl hpre ?_, rfl⟩
  have e0 : I25.f2 0 { i := t } { i := k } = { i := mostV t k } := rfl
  have e1 : I25.f2 1 { i := t } { i := k } = { i := wayE t k } := rfl
  simp only [StOk, E.den, BiO.den, UnO.den, List.map_cons, List.map_nil, List.getD_cons_zero, List.getD_cons_succ, decide_eq_true_eq, decide_eq_false_iff_not, beq_iff_eq, beq_eq_false_iff_ne, Bool.not_eq_true', Bool.not_eq_false', e0, e1]
  refine ⟨fun a => make_not (makeE_way a) a, fun a => ⟨fun b => make_not (makeE_less a b) (by decide), fun b => ⟨fun c => make_not (makeE_more a (by omega) c) (by decide), fun c => ?_⟩⟩⟩
  obtain ⟨w1, w2, w3, w4, _⟩ := way_0 a
  have hE := makeE_ok a (by omega) (by omega : r ≤ mostV t k)
  obtain ⟨t, rfl⟩ := int_nat (x := t) (by omega)
  obtain ⟨r, rfl⟩ := int_nat (x := r) (by omega)
  obtain ⟨k, rfl⟩ := int_nat (x := k) (by omega)
  exact ⟨fun d => rRMake (by omega) (by omega) (by omega) (by omega) (by omega) (by omega) a hE (by rw [if_pos d]) r 0 (by omega), fun d => rRMake (by omega) (by omega) (by omega) (by omega) (by omega) (by omega) a hE (by rw [if_neg d]) r 0 (by omega)⟩
end Go.Proofs.Ytbknfmmoniammaa
