/- Chapter 25: the movements of all kinds, with and without a rover. -/
import Derived.Test.YtbknfmmoniammaaC25S
namespace Go.Proofs.Ytbknfmmoniammaa
open Go Go.Sx Go.Proofs.C25

theorem two_ii {ρ0 : List U} (h : ρ0 = normU [.i, .i] ρ0) : ∃ a b : Int, ρ0 = [{ i := a }, { i := b }] := ⟨_, _, h⟩
theorem three_iii {ρ0 : List U} (h : ρ0 = normU [.i, .i, .i] ρ0) : ∃ a b c : Int, ρ0 = [{ i := a }, { i := b }, { i := c }] := ⟨_, _, _, h⟩

/-! ### which kinds there are -/
theorem way_far {t k : Int} (h : t < 2 ∨ 24 < t ∨ k < 1 ∨ 3 < k) : wayE t k = 2 ∧ mostV t k = 0 := by
  have : wayE t k = 2 := by unfold wayE; rw [if_pos h]
  exact ⟨this, by unfold mostV; rw [this]; rfl⟩
theorem way_in {t k : Int} (h2 : 2 ≤ t) (h24 : t ≤ 24) (k1 : 1 ≤ k) (k3 : k ≤ 3) : wayE t k = if (k = 1) ↔ (t.tmod 2 = 1) then 0 else 6 := by
  unfold wayE
  rw [if_neg (by omega)]
theorem way_no {t k : Int} (h2 : 2 ≤ t) (h24 : t ≤ 24) (k1 : 1 ≤ k) (k3 : k ≤ 3) (h : ¬ ((k = 1) ↔ (t.tmod 2 = 1))) : wayE t k = 6 ∧ mostV t k = 0 := by
  have : wayE t k = 6 := by rw [way_in h2 h24 k1 k3, if_neg h]
  exact ⟨this, by unfold mostV; rw [this]; rfl⟩
theorem way_yes {t k : Int} (h2 : 2 ≤ t) (h24 : t ≤ 24) (k1 : 1 ≤ k) (k3 : k ≤ 3) (h : (k = 1) ↔ (t.tmod 2 = 1)) : wayE t k = 0 ∧ mostV t k = if k = 2 then t - 1 else t := by
  have : wayE t k = 0 := by rw [way_in h2 h24 k1 k3, if_pos h]
  exact ⟨this, by unfold mostV; rw [this]; rfl⟩
theorem way_0 {t k : Int} (h : wayE t k = 0) : 2 ≤ t ∧ t ≤ 24 ∧ 1 ≤ k ∧ k ≤ 3 ∧ ((k = 1) ↔ (t.tmod 2 = 1)) := by
  unfold wayE at h
  split at h
  · cases h
  · split at h
    · rename_i h1 h2; exact ⟨by omega, by omega, by omega, by omega, h2⟩
    · cases h

def mostOut (t k : Int) : List U := [{ i := mostV t k }, { i := wayE t k }]
theorem out_far {t k : Int} (h : t < 2 ∨ 24 < t ∨ k < 1 ∨ 3 < k) : [({ i := 0 } : U), { i := 2 }] = mostOut t k := by rw [mostOut, (way_far h).1, (way_far h).2]
theorem out_no {t k : Int} (h2 : 2 ≤ t) (h24 : t ≤ 24) (k1 : 1 ≤ k) (k3 : k ≤ 3) (h : ¬ ((k = 1) ↔ (t.tmod 2 = 1))) : [({ i := 0 } : U), { i := 6 }] = mostOut t k := by
  rw [mostOut, (way_no h2 h24 k1 k3 h).1, (way_no h2 h24 k1 k3 h).2]
theorem out_yes {t k : Int} (h2 : 2 ≤ t) (h24 : t ≤ 24) (k1 : 1 ≤ k) (k3 : k ≤ 3) (h : (k = 1) ↔ (t.tmod 2 = 1)) {x : Int} (hx : x = if k = 2 then t - 1 else t) : [({ i := x } : U), { i := 0 }] = mostOut t k := by
  rw [mostOut, (way_yes h2 h24 k1 k3 h).1, (way_yes h2 h24 k1 k3 h).2, hx]

theorem vMost : cMost.Valid (cx [] []) I25 := by
  refine Ctr.valid_run resp25 (glIn _ _) (fun c hc => by cases hc) (by decide) (by decide) (by kernel_rfl) rfl sMost [.i, .i] [.i, .i] (by decide) ?_
  intro ρ0 hρ hpre _
  obtain ⟨t, k, rfl⟩ := two_ii hρ
  refine ⟨mostOut t k, Runs.step rfl hpre ?_, rfl⟩
  simp only [StOk, E.den, BiO.den, UnO.den, List.map_cons, List.map_nil, List.getD_cons_zero, List.getD_cons_succ, decide_eq_true_eq, decide_eq_false_iff_not, beq_iff_eq, beq_eq_false_iff_ne, Bool.not_eq_true', Bool.not_eq_false']
  refine ⟨fun a => out_far (by omega), fun a => ⟨fun b => out_far (by omega), fun b => ⟨fun c => out_far (by omega), fun c => ⟨fun d => out_far (by omega), fun d => ⟨fun e => ⟨fun f => out_no (by omega) (by omega) (by omega) (by omega) (fun h => f (h.1 e)), fun f => out_yes (by omega) (by omega) (by omega) (by omega) ⟨fun _ => f, fun _ => e⟩ (by rw [if_neg (by omega)])⟩,
    fun e => ⟨fun f => ⟨fun g => ?_, fun g => ?_⟩, fun f => ⟨fun g => ⟨fun i => ?_, fun i => ?_⟩, fun g => by omega⟩⟩⟩⟩⟩⟩⟩
  · exact out_no (by omega) (by omega) (by omega) (by omega) (fun h => e (h.2 g))
  · exact out_yes (by omega) (by omega) (by omega) (by omega) ⟨fun h => (e h).elim, fun h => (g h).elim⟩ (by rw [if_pos f]; rfl)
  · exact out_no (by omega) (by omega) (by omega) (by omega) (fun h => e (h.2 i))
  · exact out_yes (by omega) (by omega) (by omega) (by omega) ⟨fun h => (e h).elim, fun h => (i h).elim⟩ (by rw [if_neg f])

theorem vRMost : cRMost.Valid (cx [] []) I25 := by
  refine Ctr.valid_run resp25 (glIn _ _) (fun c hc => by cases hc) (by decide) (by decide) (by kernel_rfl) rfl sRMost [.i, .i] [.i, .i] (by decide) ?_
  intro ρ0 hρ hpre _
  obtain ⟨t, k, rfl⟩ := two_ii hρ
  refine ⟨mostOut t k, Runs.step rfl hpre ?_, rfl⟩
  simp only [StOk, E.den, BiO.den, List.map_cons, List.map_nil, List.getD_cons_zero, List.getD_cons_succ, decide_eq_true_eq, decide_eq_false_iff_not, beq_iff_eq, beq_eq_false_iff_ne]
  refine ⟨fun a => out_far (by omega), fun a => ⟨fun b => out_far (by omega), fun b => ⟨fun c => out_far (by omega), fun c => ⟨fun d => out_far (by omega), fun d => ?_⟩⟩⟩⟩
  have hm : t.tmod 2 = t % 2 := Int.tmod_eq_emod_of_nonneg (by omega)
  refine ⟨fun e => ⟨fun f => out_no (by omega) (by omega) (by omega) (by omega) (fun h => by have := h.1 e; omega), fun f => out_yes (by omega) (by omega) (by omega) (by omega) ⟨fun _ => by omega, fun _ => e⟩ (by rw [if_neg (by omega)])⟩,
    fun e => ⟨fun _ => ⟨fun f => out_no (by omega) (by omega) (by omega) (by omega) (fun h => e (h.2 f)), fun f => ⟨fun g => ?_, fun g => ?_⟩⟩, fun f => by omega⟩⟩
  · exact out_yes (by omega) (by omega) (by omega) (by omega) ⟨fun h => (e h).elim, fun h => (f h).elim⟩ (by rw [if_pos g]; rfl)
  · exact out_yes (by omega) (by omega) (by omega) (by omega) ⟨fun h => (e h).elim, fun h => (f h).elim⟩ (by rw [if_neg g])

/-! ### pairs and sets -/
theorem pair_int {t k r j : Nat} (ht : 0 < t) : ((pairM t k r j : Nat) : Int) = ((j : Int) - (if k = 2 ∧ t / 2 ≤ r then (r : Int) + 1 else r)) % (t : Int) := by
  unfold pairM
  exact Int.toNat_of_nonneg (Int.emod_nonneg _ (by omega))
theorem set_int {t k r j : Nat} : ((setM t k r j : Nat) : Int) = ((if k = 3 ∧ t / 2 ≤ j then (j : Int) + 1 else j) + r) % (t : Int) := by
  unfold setM
  rw [Int.natCast_emod]
  split <;> congr 1
theorem pair_tmod {t j : Nat} {x : Int} (hr : x ≤ 2 * t) (hj : j < t) (ht : t ≤ 24) (hx : 0 ≤ x) : (IntKind.wrap .i64 ((j : Int) - x + 2 * t)).tmod t = ((j : Int) - x) % t := by
  rw [w64 (by omega) (by omega), Int.tmod_eq_emod_of_nonneg (by omega), Int.mul_comm 2, Int.add_mul_emod_self_left]

theorem rowsM_succ (t k r : Nat) : rowsM t k (r + 1) = rowsM t k r ++ (List.range t).map (rowM t k r) := by
  unfold rowsM
  rw [List.range_succ, List.flatMap_append]
  simp
theorem rowsM_len (t k : Nat) : ∀ r, (rowsM t k r).length = r * t
  | 0 => by simp [rowsM]
  | r + 1 => by rw [rowsM_succ, List.length_append, rowsM_len t k r, List.length_map, List.length_range, Nat.succ_mul]
theorem range_map_succ {α : Type} (f : Nat → α) (j : Nat) : (List.range (j + 1)).map f = (List.range j).map f ++ [f j] := by rw [List.range_succ, List.map_append]; rfl

def makeOut (t r k : Int) : List U := [{ i := makeF 0 t r k }, { i := makeF 1 t r k }, { i := makeF 2 t r k }, { i := makeF 3 t r k }, { i := makeF 4 t r k }, { l := makeR t r k }, { i := makeE t r k }]
theorem make_not {t r k e : Int} (h : makeE t r k = e) (he : e ≠ 0) : [({ i := 0 } : U), { i := 0 }, { i := 0 }, { i := 0 }, { i := 0 }, { l := [] }, { i := e }] = makeOut t r k := by
  subst h
  unfold makeOut makeF makeR
  simp only [if_pos he]
theorem makeE_way {t r k : Int} (h : wayE t k ≠ 0) : makeE t r k = wayE t k := by unfold makeE; rw [if_pos h]
theorem makeE_less {t r k : Int} (h : wayE t k = 0) (hr : r < 1) : makeE t r k = 2 := by unfold makeE; rw [if_neg (fun e => e h), if_pos hr]
theorem makeE_more {t r k : Int} (h : wayE t k = 0) (h1 : 1 ≤ r) (hr : mostV t k < r) : makeE t r k = 5 := by unfold makeE; rw [if_neg (fun e => e h), if_neg (by omega), if_pos hr]
theorem makeE_ok {t r k : Int} (h : wayE t k = 0) (h1 : 1 ≤ r) (hr : r ≤ mostV t k) : makeE t r k = 0 := by unfold makeE; rw [if_neg (fun e => e h), if_neg (by omega), if_neg (by omega)]
theorem make_yes {t r k : Int} (h : makeE t r k = 0) {c : Int} (hc : c = if k = 3 then 2 else 1) : [({ i := t } : U), { i := r }, { i := t }, { i := c }, { i := 2 }, { l := rowsM t.toNat k.toNat r.toNat }, { i := 0 }] = makeOut t r k := by
  unfold makeOut makeF makeR
  simp only [h, hc, ne_eq, not_true_eq_false, if_false]

theorem row_1 {t r j : Nat} (hj : j < t) (hr : r < t) (ht : t ≤ 24) : [(r : Int), (j : Int), (j : Int) + 1, (t : Int) + (IntKind.wrap .i64 ((j : Int) - (r : Int) + 2 * (t : Int))).tmod (t : Int) + 1, ((j : Int) + (r : Int)).tmod (t : Int)] = rowM t 1 r j := by
  unfold rowM
  rw [pair_int (by omega), set_int]
  simp only [Nat.reduceEqDiff, false_and, if_false]
  rw [pair_tmod (by omega) hj ht (by omega), Int.tmod_eq_emod_of_nonneg (by omega), Int.add_right_comm]

theorem rMake1 {t R : Nat} (h2 : 2 ≤ t) (h24 : t ≤ 24) (hodd : (t : Int).tmod 2 = 1) (h1 : 1 ≤ R) (hR : R ≤ t) (hE : makeE t R 1 = 0) : ∀ f r : Nat, r + f = R →
    Runs I25 (tmsMake.map Tm.pre) ssMake 1 [{ i := (t : Int) }, { i := (R : Int) }, { i := 1 }, { i := (r : Int) }, { l := rowsM t 1 r }] (makeOut t R 1)
  | f, r, hf => by
    have hl := rowsM_len t 1 r
    have hb : r * t ≤ 24 * 24 := Nat.mul_le_mul (by omega) (by omega)
    refine Runs.step rfl ?_ ?_
    · simp only [tmsMake, List.map_cons, List.getD_cons_zero, List.getD_cons_succ, holds_cons_iff, E.den, BiO.den, decide_eq_true_eq, beq_iff_eq]
      (repeat' refine And.intro ?_ ?_) <;> first | exact hodd | exact Holds.nil | omega | trivial
    · simp only [StOk, E.den, BiO.den, List.map_cons, List.map_nil, List.getD_cons_zero, List.getD_cons_succ, decide_eq_true_eq, decide_eq_false_iff_not]
      refine ⟨fun hlt => ?_, fun hge => ?_⟩
      · cases f with
        | zero => omega
        | succ f =>
          have hrow : ∀ g j : Nat, j + g = t → Runs I25 (tmsMake.map Tm.pre) ssMake 4 [{ i := (t : Int) }, { i := (R : Int) }, { i := 1 }, { l := rowsM t 1 r ++ (List.range j).map (rowM t 1 r) }, { i := (j : Int) }, { i := (r : Int) }] (makeOut t R 1) := by
            intro g
            induction g with
            | zero =>
              intro j hj
              refine Runs.step rfl ?_ ?_
              · simp only [tmsMake, List.map_cons, List.getD_cons_zero, List.getD_cons_succ, holds_cons_iff, E.den, BiO.den, UnO.den, decide_eq_true_eq, beq_iff_eq, List.length_append, List.length_map, List.length_range]
                (repeat' refine And.intro ?_ ?_) <;> first | exact hodd | exact Holds.nil | omega | trivial
              · simp only [StOk, E.den, BiO.den, UnO.den, List.map_cons, List.map_nil, List.getD_cons_zero, List.getD_cons_succ, decide_eq_true_eq, decide_eq_false_iff_not, holds_cons_iff, holds_nil_iff]
                refine ⟨fun hlt => by omega, fun _ => ?_⟩
                rw [show j = t from by omega, ← rowsM_succ]
                first | exact rMake1 h2 h24 hodd h1 hR hE f (r + 1) (by omega) | (rw [w64 (by omega) (by omega)]; exact rMake1 h2 h24 hodd h1 hR hE f (r + 1) (by omega))
            | succ g ih =>
              intro j hj
              refine Runs.step rfl ?_ ?_
              · simp only [tmsMake, List.map_cons, List.getD_cons_zero, List.getD_cons_succ, holds_cons_iff, E.den, BiO.den, UnO.den, decide_eq_true_eq, beq_iff_eq, List.length_append, List.length_map, List.length_range]
                (repeat' refine And.intro ?_ ?_) <;> first | exact hodd | exact Holds.nil | omega | trivial
              · have ih' := ih (j + 1) (by omega)
                rw [range_map_succ, ← List.append_assoc, ← row_1 (by omega) (by omega) h24] at ih'
                simp only [StOk, E.den, BiO.den, UnO.den, List.map_cons, List.map_nil, List.getD_cons_zero, List.getD_cons_succ, decide_eq_true_eq, decide_eq_false_iff_not, holds_cons_iff, holds_nil_iff, List.length_append, List.length_map, List.length_range]
                refine ⟨fun _ => ⟨⟨by omega, trivial⟩, fun _ => ?_⟩, fun hge => by omega⟩
                exact ih'
          have := hrow t 0 (by omega)
          rw [List.range_zero, List.map_nil, List.append_nil] at this
          exact this
      · rw [show r = R from by omega]
        exact make_yes (t := (t : Int)) (r := (R : Int)) hE rfl

theorem row_2 {t r j : Nat} (hj : j < t) (hr : r < t) (ht : t ≤ 24) : [(r : Int), (j : Int), (j : Int) + 1, IntKind.wrap .i64 ((t : Int) + (IntKind.wrap .i64 ((j : Int) - (if (t : Int).tdiv 2 ≤ (r : Int) then ({ i := (r : Int) + 1 } : U) else { i := (r : Int) }).i + 2 * (t : Int))).tmod (t : Int) + 1), ((j : Int) + (r : Int)).tmod (t : Int)] = rowM t 2 r j := by
  unfold rowM
  rw [pair_int (by omega), set_int]
  simp only [Nat.reduceEqDiff, false_and, true_and, if_false]
  rw [Int.tdiv_eq_ediv_of_nonneg (by omega)]
  rw [show (if (t : Int) / 2 ≤ (r : Int) then ({ i := (r : Int) + 1 } : U) else { i := (r : Int) }).i = (if t / 2 ≤ r then (r : Int) + 1 else (r : Int)) from by
    split <;> split <;> first | rfl | (rename_i a b; omega)]
  rw [pair_tmod (by split <;> omega) hj ht (by split <;> omega), Int.tmod_eq_emod_of_nonneg (by omega), w64, Int.add_right_comm]
  · have := Int.emod_nonneg ((j : Int) - (if t / 2 ≤ r then (r : Int) + 1 else (r : Int))) (b := (t : Int)) (by omega); omega
  · have := Int.emod_lt_of_pos ((j : Int) - (if t / 2 ≤ r then (r : Int) + 1 else (r : Int))) (b := (t : Int)) (by omega); omega

theorem rMake2 {t R : Nat} (h2 : 2 ≤ t) (h24 : t ≤ 24) (hodd : ¬ (t : Int).tmod 2 = 1) (h1 : 1 ≤ R) (hR : R ≤ t - 1) (hE : makeE t R 2 = 0) : ∀ f r : Nat, r + f = R →
    Runs I25 (tmsMake.map Tm.pre) ssMake 2 [{ i := (t : Int) }, { i := (R : Int) }, { i := 2 }, { i := (r : Int) }, { l := rowsM t 2 r }] (makeOut t R 2)
  | f, r, hf => by
    have hl := rowsM_len t 2 r
    have hb : r * t ≤ 24 * 24 := Nat.mul_le_mul (by omega) (by omega)
    refine Runs.step rfl ?_ ?_
    · simp only [tmsMake, List.map_cons, List.getD_cons_zero, List.getD_cons_succ, holds_cons_iff, E.den, BiO.den, UnO.den, decide_eq_true_eq, Bool.not_eq_true', beq_eq_false_iff_ne, beq_iff_eq]
      (repeat' refine And.intro ?_ ?_) <;> first | exact hodd | exact Holds.nil | omega | trivial
    · simp only [StOk, E.den, BiO.den, List.map_cons, List.map_nil, List.getD_cons_zero, List.getD_cons_succ, decide_eq_true_eq, decide_eq_false_iff_not]
      refine ⟨fun hlt => ?_, fun hge => ?_⟩
      · cases f with
        | zero => omega
        | succ f =>
          have hrow : ∀ g j : Nat, j + g = t → Runs I25 (tmsMake.map Tm.pre) ssMake 5 [{ i := (t : Int) }, { i := (R : Int) }, { i := 2 }, { l := rowsM t 2 r ++ (List.range j).map (rowM t 2 r) }, { i := (j : Int) }, { i := (r : Int) }] (makeOut t R 2) := by
            intro g
            induction g with
            | zero =>
              intro j hj
              refine Runs.step rfl ?_ ?_
              · simp only [tmsMake, List.map_cons, List.getD_cons_zero, List.getD_cons_succ, holds_cons_iff, E.den, BiO.den, UnO.den, decide_eq_true_eq, Bool.not_eq_true', beq_eq_false_iff_ne, beq_iff_eq, List.length_append, List.length_map, List.length_range]
                (repeat' refine And.intro ?_ ?_) <;> first | exact hodd | exact Holds.nil | omega | trivial
              · simp only [StOk, E.den, BiO.den, UnO.den, List.map_cons, List.map_nil, List.getD_cons_zero, List.getD_cons_succ, decide_eq_true_eq, decide_eq_false_iff_not, holds_cons_iff, holds_nil_iff]
                refine ⟨fun hlt => by omega, fun _ => ?_⟩
                rw [show j = t from by omega, ← rowsM_succ]
                first | exact rMake2 h2 h24 hodd h1 hR hE f (r + 1) (by omega) | (rw [w64 (by omega) (by omega)]; exact rMake2 h2 h24 hodd h1 hR hE f (r + 1) (by omega))
            | succ g ih =>
              intro j hj
              refine Runs.step rfl ?_ ?_
              · simp only [tmsMake, List.map_cons, List.getD_cons_zero, List.getD_cons_succ, holds_cons_iff, E.den, BiO.den, UnO.den, decide_eq_true_eq, Bool.not_eq_true', beq_eq_false_iff_ne, beq_iff_eq, List.length_append, List.length_map, List.length_range]
                (repeat' refine And.intro ?_ ?_) <;> first | exact hodd | exact Holds.nil | omega | trivial
              · have ih' := ih (j + 1) (by omega)
                rw [range_map_succ, ← List.append_assoc, ← row_2 (by omega) (by omega) h24] at ih'
                simp only [StOk, E.den, BiO.den, UnO.den, TeO.den, List.map_cons, List.map_nil, List.getD_cons_zero, List.getD_cons_succ, decide_eq_true_eq, decide_eq_false_iff_not, holds_cons_iff, holds_nil_iff, List.length_append, List.length_map, List.length_range]
                refine ⟨fun _ => ⟨⟨by omega, trivial⟩, fun _ => ?_⟩, fun hge => by omega⟩
                exact ih'
          have := hrow t 0 (by omega)
          rw [List.range_zero, List.map_nil, List.append_nil] at this
          exact this
      · rw [show r = R from by omega]
        exact make_yes (t := (t : Int)) (r := (R : Int)) hE rfl

theorem row_3 {t r j : Nat} (hj : j < t) (hr : r < t) (ht : t ≤ 24) : [(r : Int), (j : Int), (j : Int) + 1, (t : Int) + (IntKind.wrap .i64 ((j : Int) - (r : Int) + 2 * (t : Int))).tmod (t : Int) + 1, ((if (t : Int).tdiv 2 ≤ (j : Int) then ({ i := (j : Int) + 1 } : U) else { i := (j : Int) }).i + (r : Int)).tmod (t : Int)] = rowM t 3 r j := by
  unfold rowM
  rw [pair_int (by omega), set_int]
  simp only [Nat.reduceEqDiff, false_and, true_and, if_false]
  rw [Int.tdiv_eq_ediv_of_nonneg (by omega)]
  rw [show (if (t : Int) / 2 ≤ (j : Int) then ({ i := (j : Int) + 1 } : U) else { i := (j : Int) }).i = (if t / 2 ≤ j then (j : Int) + 1 else (j : Int)) from by
    split <;> split <;> first | rfl | (rename_i a b; omega)]
  rw [pair_tmod (by omega) hj ht (by omega), Int.tmod_eq_emod_of_nonneg (by split <;> omega), Int.add_right_comm]

theorem rMake3 {t R : Nat} (h2 : 2 ≤ t) (h24 : t ≤ 24) (hodd : ¬ (t : Int).tmod 2 = 1) (h1 : 1 ≤ R) (hR : R ≤ t) (hE : makeE t R 3 = 0) : ∀ f r : Nat, r + f = R →
    Runs I25 (tmsMake.map Tm.pre) ssMake 3 [{ i := (t : Int) }, { i := (R : Int) }, { i := 3 }, { i := (r : Int) }, { l := rowsM t 3 r }] (makeOut t R 3)
  | f, r, hf => by
    have hl := rowsM_len t 3 r
    have hb : r * t ≤ 24 * 24 := Nat.mul_le_mul (by omega) (by omega)
    refine Runs.step rfl ?_ ?_
    · simp only [tmsMake, List.map_cons, List.getD_cons_zero, List.getD_cons_succ, holds_cons_iff, E.den, BiO.den, UnO.den, decide_eq_true_eq, Bool.not_eq_true', beq_eq_false_iff_ne, beq_iff_eq]
      (repeat' refine And.intro ?_ ?_) <;> first | exact hodd | exact Holds.nil | omega | trivial
    · simp only [StOk, E.den, BiO.den, List.map_cons, List.map_nil, List.getD_cons_zero, List.getD_cons_succ, decide_eq_true_eq, decide_eq_false_iff_not]
      refine ⟨fun hlt => ?_, fun hge => ?_⟩
      · cases f with
        | zero => omega
        | succ f =>
          have hrow : ∀ g j : Nat, j + g = t → Runs I25 (tmsMake.map Tm.pre) ssMake 6 [{ i := (t : Int) }, { i := (R : Int) }, { i := 3 }, { l := rowsM t 3 r ++ (List.range j).map (rowM t 3 r) }, { i := (j : Int) }, { i := (r : Int) }] (makeOut t R 3) := by
            intro g
            induction g with
            | zero =>
              intro j hj
              refine Runs.step rfl ?_ ?_
              · simp only [tmsMake, List.map_cons, List.getD_cons_zero, List.getD_cons_succ, holds_cons_iff, E.den, BiO.den, UnO.den, decide_eq_true_eq, Bool.not_eq_true', beq_eq_false_iff_ne, beq_iff_eq, List.length_append, List.length_map, List.length_range]
                (repeat' refine And.intro ?_ ?_) <;> first | exact hodd | exact Holds.nil | omega | trivial
              · simp only [StOk, E.den, BiO.den, UnO.den, List.map_cons, List.map_nil, List.getD_cons_zero, List.getD_cons_succ, decide_eq_true_eq, decide_eq_false_iff_not, holds_cons_iff, holds_nil_iff]
                refine ⟨fun hlt => by omega, fun _ => ?_⟩
                rw [show j = t from by omega, ← rowsM_succ]
                first | exact rMake3 h2 h24 hodd h1 hR hE f (r + 1) (by omega) | (rw [w64 (by omega) (by omega)]; exact rMake3 h2 h24 hodd h1 hR hE f (r + 1) (by omega))
            | succ g ih =>
              intro j hj
              refine Runs.step rfl ?_ ?_
              · simp only [tmsMake, List.map_cons, List.getD_cons_zero, List.getD_cons_succ, holds_cons_iff, E.den, BiO.den, UnO.den, decide_eq_true_eq, Bool.not_eq_true', beq_eq_false_iff_ne, beq_iff_eq, List.length_append, List.length_map, List.length_range]
                (repeat' refine And.intro ?_ ?_) <;> first | exact hodd | exact Holds.nil | omega | trivial
              · have ih' := ih (j + 1) (by omega)
                rw [range_map_succ, ← List.append_assoc, ← row_3 (by omega) (by omega) h24] at ih'
                simp only [StOk, E.den, BiO.den, UnO.den, TeO.den, List.map_cons, List.map_nil, List.getD_cons_zero, List.getD_cons_succ, decide_eq_true_eq, decide_eq_false_iff_not, holds_cons_iff, holds_nil_iff, List.length_append, List.length_map, List.length_range]
                refine ⟨fun _ => ⟨⟨by omega, trivial⟩, fun _ => ?_⟩, fun hge => by omega⟩
                exact ih'
          have := hrow t 0 (by omega)
          rw [List.range_zero, List.map_nil, List.append_nil] at this
          exact this
      · rw [show r = R from by omega]
        exact make_yes (t := (t : Int)) (r := (R : Int)) hE rfl

theorem vMoves : cMoves.Valid (cx [] []) I25 := by
  refine Ctr.valid_run resp25 (glIn _ _) (fun c hc => by cases hc) (by decide) (by decide) (by kernel_rfl) rfl sMoves [.i, .i, .i] [.i] (by decide) ?_
  intro ρ0 hρ hpre _
  obtain ⟨t, r, j, rfl⟩ := three_iii hρ
  exact ⟨[{ i := j - r }], Runs.step rfl hpre rfl, rfl⟩
theorem vNext : cNext.Valid (cx [] []) I25 := by
  refine Ctr.valid_run resp25 (glIn _ _) (fun c hc => by cases hc) (by decide) (by decide) (by kernel_rfl) rfl sNext [.i, .i, .i] [.i] (by decide) ?_
  intro ρ0 hρ hpre _
  obtain ⟨t, r, j, rfl⟩ := three_iii hρ
  exact ⟨[{ i := j + r }], Runs.step rfl hpre rfl, rfl⟩
theorem vSkip : cSkip.Valid (cx [] []) I25 := by
  refine Ctr.valid_run resp25 (glIn _ _) (fun c hc => by cases hc) (by decide) (by decide) (by kernel_rfl) rfl sSkip [.i, .i, .i] [.i] (by decide) ?_
  intro ρ0 hρ hpre _
  obtain ⟨t, r, j, rfl⟩ := three_iii hρ
  refine ⟨[{ i := j - (if t.tdiv 2 ≤ r then r + 1 else r) }], Runs.step rfl hpre ?_, ?_⟩
  · simp only [StOk, E.den, BiO.den, List.map_cons, List.map_nil, List.getD_cons_zero, List.getD_cons_succ, decide_eq_true_eq, decide_eq_false_iff_not]
    refine ⟨fun h => ?_, fun h => ?_⟩
    · rw [if_pos h, show j - r + -1 = j - (r + 1) from by omega]
    · rw [if_neg h]
  · simp only [cSkip, cMoves, E.den, BiO.den, TeO.den, List.map_cons, List.map_nil, List.getD_cons_zero, List.getD_cons_succ, decide_eq_true_eq]
    split <;> rfl
theorem vShare : cShare.Valid (cx [] []) I25 := by
  refine Ctr.valid_run resp25 (glIn _ _) (fun c hc => by cases hc) (by decide) (by decide) (by kernel_rfl) rfl sShare [.i, .i, .i] [.i] (by decide) ?_
  intro ρ0 hρ hpre _
  obtain ⟨t, r, j, rfl⟩ := three_iii hρ
  refine ⟨[{ i := (if t.tdiv 2 ≤ j then j + 1 else j) + r }], Runs.step rfl hpre ?_, ?_⟩
  · simp only [StOk, E.den, BiO.den, List.map_cons, List.map_nil, List.getD_cons_zero, List.getD_cons_succ, decide_eq_true_eq, decide_eq_false_iff_not]
    refine ⟨fun h => ?_, fun h => ?_⟩
    · rw [if_pos h, show j + r + 1 = j + 1 + r from by omega]
    · rw [if_neg h]
  · simp only [cShare, cMoves, E.den, BiO.den, TeO.den, List.map_cons, List.map_nil, List.getD_cons_zero, List.getD_cons_succ, decide_eq_true_eq]
    split <;> rfl

theorem int_nat {x : Int} (h : 0 ≤ x) : ∃ n : Nat, x = n := ⟨x.toNat, by omega⟩

theorem vMake : cMake.Valid (cx [] []) I25 := by
  refine re (Ctr.valid_run resp25 (glIn _ _) (allOf (.cons vMoves (.cons vNext (.cons vSkip (.cons vShare .nil))))) (by decide) (by decide) (by kernel_rfl) rfl sMake [.i, .i, .i] [.i, .i, .i, .i, .i, .l, .i] (by decide) ?_)
  intro ρ0 hρ hpre _
  obtain ⟨t, r, k, rfl⟩ := three_iii hρ
  refine ⟨makeOut t r k, Runs.step rfl hpre ?_, rfl⟩
  simp only [StOk, E.den, BiO.den, UnO.den, List.map_cons, List.map_nil, List.getD_cons_zero, List.getD_cons_succ, decide_eq_true_eq, decide_eq_false_iff_not, beq_iff_eq, beq_eq_false_iff_ne, Bool.not_eq_true', Bool.not_eq_false']
  have far (h : t < 2 ∨ 24 < t ∨ k < 1 ∨ 3 < k) := make_not (t := t) (r := r) (k := k) (e := 2) (by rw [makeE_way (by rw [(way_far h).1]; decide), (way_far h).1]) (by decide)
  refine ⟨fun a => far (by omega), fun a => ⟨fun b => far (by omega), fun b => ⟨fun c => far (by omega), fun c => ⟨fun d => far (by omega), fun d => ?_⟩⟩⟩⟩
  have no (h : ¬ ((k = 1) ↔ (t.tmod 2 = 1))) := make_not (t := t) (r := r) (k := k) (e := 6) (by rw [makeE_way (by rw [(way_no (by omega) (by omega) (by omega) (by omega) h).1]; decide), (way_no (by omega) (by omega) (by omega) (by omega) h).1]) (by decide)
  have less (h : (k = 1) ↔ (t.tmod 2 = 1)) (hr : r < 1) := make_not (t := t) (r := r) (k := k) (e := 2) (makeE_less (way_yes (by omega) (by omega) (by omega) (by omega) h).1 hr) (by decide)
  have more (h : (k = 1) ↔ (t.tmod 2 = 1)) (hr : 1 ≤ r) (hm : (if k = 2 then t - 1 else t) < r) := make_not (t := t) (r := r) (k := k) (e := 5) (makeE_more (way_yes (by omega) (by omega) (by omega) (by omega) h).1 hr (by rw [(way_yes (by omega) (by omega) (by omega) (by omega) h).2]; exact hm)) (by decide)
  have ok (h : (k = 1) ↔ (t.tmod 2 = 1)) (hr : 1 ≤ r) (hm : r ≤ (if k = 2 then t - 1 else t)) : makeE t r k = 0 := makeE_ok (way_yes (by omega) (by omega) (by omega) (by omega) h).1 hr (by rw [(way_yes (by omega) (by omega) (by omega) (by omega) h).2]; exact hm)
  refine ⟨fun e => ⟨fun f => no (fun h => f (h.1 e)), fun f => ?_⟩, fun e => ⟨fun f => ⟨fun g => no (fun h => e (h.2 g)), fun g => ?_⟩, fun f => ⟨fun g => ⟨fun i => no (fun h => e (h.2 i)), fun i => ?_⟩, fun g => by omega⟩⟩⟩
  · have hw : (k = 1) ↔ (t.tmod 2 = 1) := ⟨fun _ => f, fun _ => e⟩
    refine ⟨fun x => less hw x, fun x => ⟨fun y => more hw (by omega) (by rw [if_neg (by omega)]; exact y), fun y => ?_⟩⟩
    have hE := ok hw (by omega) (by rw [if_neg (by omega)]; omega)
    obtain ⟨t, rfl⟩ := int_nat (x := t) (by omega)
    obtain ⟨r, rfl⟩ := int_nat (x := r) (by omega)
    subst e
    exact rMake1 (by omega) (by omega) f (by omega) (by omega) hE r 0 (by omega)
  · have hw : (k = 1) ↔ (t.tmod 2 = 1) := ⟨fun h => (e h).elim, fun h => (g h).elim⟩
    refine ⟨fun x => less hw x, fun x => ⟨fun y => more hw (by omega) (by rw [if_pos f]; exact y), fun y => ?_⟩⟩
    have hE := ok hw (by omega) (by rw [if_pos f]; omega)
    obtain ⟨t, rfl⟩ := int_nat (x := t) (by omega)
    obtain ⟨r, rfl⟩ := int_nat (x := r) (by omega)
    subst f
    exact rMake2 (by omega) (by omega) g (by omega) (by omega) hE r 0 (by omega)
  · have hw : (k = 1) ↔ (t.tmod 2 = 1) := ⟨fun h => (e h).elim, fun h => (i h).elim⟩
    refine ⟨fun x => less hw x, fun x => ⟨fun y => more hw (by omega) (by rw [if_neg f]; exact y), fun y => ?_⟩⟩
    have hE := ok hw (by omega) (by rw [if_neg f]; omega)
    obtain ⟨t, rfl⟩ := int_nat (x := t) (by omega)
    obtain ⟨r, rfl⟩ := int_nat (x := r) (by omega)
    subst g
    exact rMake3 (by omega) (by omega) i (by omega) (by omega) hE r 0 (by omega)
end Go.Proofs.Ytbknfmmoniammaa
