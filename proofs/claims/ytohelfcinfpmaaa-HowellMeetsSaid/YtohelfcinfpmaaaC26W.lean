/- Chapter 26: the check of a starter, and the reference's: valid. -/
import Derived.Test.YtohelfcinfpmaaaC26V
namespace Go.Proofs.Ytohelfcinfpmaaa
open Go Go.Sx Go.Proofs.C26

theorem two_il {ρ0 : List U} (h : ρ0 = normU [.i, .l] ρ0) : ∃ (n : Int) (l : List (List Int)), ρ0 = [{ i := n }, { l := l }] := ⟨_, _, h⟩

theorem vCheck : cCheck.Valid (cx [] [16]) I26 := by
  refine Ctr.valid_run resp26 (glIn _ _) (fun c hc => by cases hc) (by decide) (by decide) (by kernel_rfl) rfl sCheck [.i, .l] [.b, .i] (by decide) ?_
  intro ρ0 hρ hpre _
  obtain ⟨n, l, rfl⟩ := two_il hρ
  have hp := hpre
  simp only [cCheck, few, holds_cons_iff, E.den, BiO.den, UnO.den, List.getD_cons_zero, List.getD_cons_succ, decide_eq_true_eq] at hp
  obtain ⟨h1, _⟩ := hp
  refine ⟨chkOut n l, Runs.step rfl hpre ?_, rfl⟩
  simp only [StOk, E.den, BiO.den, List.map_cons, List.map_nil, List.getD_cons_zero, List.getD_cons_succ, decide_eq_true_eq, decide_eq_false_iff_not, beq_iff_eq, beq_eq_false_iff_ne]
  refine ⟨fun a => ?_, fun a => ⟨fun b => ?_, fun b => ⟨fun c => ?_, fun c => ?_⟩⟩⟩
  · rw [chkOut, (check_arg (.inl a)).1, (check_arg (.inl a)).2]
  · rw [chkOut, (check_arg (.inr (.inl b))).1, (check_arg (.inr (.inl b))).2]
  · rw [chkOut, (check_arg (.inr (.inr c))).1, (check_arg (.inr (.inr c))).2]
  · exact rCheck a (by omega) (by omega) (by omega) l.length 0 [] (by omega) (fun r h => by cases h) (fun a k _ _ => rfl)

/-! ### the numbers of a starter fill their range -/
theorem sum_one (x : Int) : ∀ m : Nat, ((List.range m).map fun k : Nat => if x = (k : Int) + 1 then 1 else 0).sum = if 1 ≤ x ∧ x ≤ m then 1 else 0
  | 0 => by simp; omega
  | m + 1 => by
    rw [List.range_succ, List.map_append, List.sum_append, sum_one x m]
    simp only [List.map_cons, List.map_nil, List.sum_cons, List.sum_nil, Nat.add_zero]
    (repeat' split) <;> omega
theorem sum_add {α : Type} (f g : α → Nat) : ∀ l : List α, (l.map fun a => f a + g a).sum = (l.map f).sum + (l.map g).sum
  | [] => rfl
  | a :: l => by simp only [List.map_cons, List.sum_cons, sum_add f g l]; omega
theorem occ_sum {n : Int} (h3 : 3 ≤ n) : ∀ l : List (List Int), (∀ r ∈ l, inside n r = true) → ((List.range (n.toNat - 1)).map fun k : Nat => occ n l 0 ((k : Int) + 1)).sum = 2 * l.length
  | [], _ => by
    have : ∀ m : Nat, ((List.range m).map fun _ => 0).sum = 0 := fun m => by induction m with
      | zero => rfl
      | succ m ih => rw [List.range_succ, List.map_append, List.sum_append, ih]; rfl
    exact this _
  | r :: l, h => by
    have h1 := inside_iff.1 (h r (List.mem_cons_self ..))
    have hs : (fun k : Nat => occ n (r :: l) 0 ((k : Int) + 1)) = fun k : Nat => ((if r.getD 0 0 = (k : Int) + 1 then 1 else 0) + (if r.getD 1 0 = (k : Int) + 1 then 1 else 0)) + occ n l 0 ((k : Int) + 1) := by
      funext k
      simp [occ, occ1]
    rw [hs, sum_add, sum_add, sum_one, sum_one, occ_sum h3 l (fun r hr => h r (List.mem_cons_of_mem _ hr)), if_pos ⟨by omega, by omega⟩, if_pos ⟨by omega, by omega⟩, List.length_cons]
    omega
theorem starts_len {n : Int} {l : List (List Int)} (h3 : 3 ≤ n) (h : starts n l = true) : 2 * (l.length : Int) = n - 1 := by
  obtain ⟨h1, h2⟩ := starts_iff.1 h
  have e := occ_sum h3 l h1
  have : ∀ m : Nat, (m : Int) < n → ((List.range m).map fun k : Nat => occ n l 0 ((k : Int) + 1)).sum = m := fun m => by
    induction m with
    | zero => intro _; rfl
    | succ m ih =>
      intro hm
      rw [List.range_succ, List.map_append, List.sum_append, ih (by omega)]
      simp only [List.map_cons, List.map_nil, List.sum_cons, List.sum_nil, Nat.add_zero]
      rw [(h2 ((m : Int) + 1) (by omega) (by omega)).1]
  rw [this _ (by omega)] at e
  omega

theorem inside_elems {n : Int} {l : List (List Int)} (h47 : n ≤ 47) (hw : ∀ r ∈ l, r.length = 2) (h : ∀ r ∈ l, inside n r = true) : (l.all fun r => r.all fun x => decide (0 ≤ x) && decide (x ≤ 47)) = true := by
  rw [List.all_eq_true]
  intro r hr
  have h1 := inside_iff.1 (h r hr)
  have h2 := hw r hr
  match r, h2 with
  | [a, b], _ =>
    simp only [List.getD_cons_zero, List.getD_cons_succ] at h1
    simp only [List.all_cons, List.all_nil, Bool.and_eq_true, decide_eq_true_eq]
    refine ⟨⟨?_, ?_⟩, ⟨?_, ?_⟩, trivial⟩ <;> omega

theorem rRCheckK {n : Int} {l : List (List Int)} (h1 : n.tmod 2 ≠ 0) (h3 : 3 ≤ n) (h47 : n ≤ 47) (hl : (l.length : Int) = (n + -1).tdiv 2) (hw : ∀ r ∈ l, r.length = 2) (hins : ∀ r ∈ l, inside n r = true) :
    ∀ (f : Nat) (k : Int) (b : Bool), k + f = n → 1 ≤ k →
    (b = true ↔ occ n l 2 0 = 0 ∧ ∀ j : Int, 1 ≤ j → j < k → occ n l 2 j ≤ 1) → (∀ j : Int, 1 ≤ j → j < k → occ n l 0 j = 1 ∧ occ n l 1 j = 1) →
    Runs I26 (tmsRCheck.map Tm.pre) ssRCheck 2 [{ i := n }, { l := l }, { b := b }, { i := k }] (chkOut n l)
  | f, k, b, hk, hk1, hb, hj => by
    refine Runs.step rfl ?_ ?_
    · simp only [tmsRCheck, List.map_cons, List.getD_cons_zero, List.getD_cons_succ, holds_cons_iff, E.den, BiO.den, UnO.den, TeO.den, decide_eq_true_eq, Bool.not_eq_true', beq_eq_false_iff_ne, beq_iff_eq]
      refine ⟨?_, ?_, ?_, ?_, inside_elems h47 hw hins, hl, h1, Holds.nil⟩ <;> omega
    · simp only [StOk, E.den, BiO.den, UnO.den, I26, List.map_cons, List.map_nil, List.getD_cons_zero, List.getD_cons_succ, decide_eq_true_eq, decide_eq_false_iff_not, beq_iff_eq, beq_eq_false_iff_ne, Bool.not_eq_true', Bool.not_eq_false']
      have hno : (occ n l 0 k ≠ 1 ∨ occ n l 1 k ≠ 1) → k < n → [({ b := false } : U), { i := 260 }] = chkOut n l := by
        intro h hkn
        have : starts n l ≠ true := fun hs => by have := (starts_iff.1 hs).2 k hk1 hkn; omega
        rw [chkOut, (check_not h1 h3 h47 this).1, (check_not h1 h3 h47 this).2]
      refine ⟨fun hlt => ⟨fun q => hno (.inl (by omega)) hlt, fun q => ⟨fun q' => hno (.inr (by omega)) hlt, fun q' => ⟨fun hbt => ?_, fun hbf => ?_⟩⟩⟩, fun hge => ?_⟩
      · cases f with
        | zero => omega
        | succ f =>
          refine rRCheckK h1 h3 h47 hl hw hins f (k + 1) false (by omega) (by omega) ?_ ?_
          · constructor
            · intro h; cases h
            · intro h
              have := h.2 k hk1 (by omega)
              omega
          · intro j hj1 hj2
            rcases Int.lt_or_eq_of_le (show j ≤ k by omega) with h | rfl
            · exact hj j hj1 h
            · omega
      · cases f with
        | zero => omega
        | succ f =>
          refine rRCheckK h1 h3 h47 hl hw hins f (k + 1) b (by omega) (by omega) ?_ ?_
          · rw [hb]
            constructor
            · intro h
              refine ⟨h.1, fun j hj1 hj2 => ?_⟩
              rcases Int.lt_or_eq_of_le (show j ≤ k by omega) with h' | rfl
              · exact h.2 j hj1 h'
              · omega
            · intro h
              exact ⟨h.1, fun j hj1 hj2 => h.2 j hj1 (by omega)⟩
          · intro j hj1 hj2
            rcases Int.lt_or_eq_of_le (show j ≤ k by omega) with h | rfl
            · exact hj j hj1 h
            · omega
      · obtain rfl : k = n := by omega
        have hs : starts k l = true := starts_iff.2 ⟨hins, hj⟩
        have hb2 : b = strongS k l := by
          rw [Bool.eq_iff_iff, strongS_iff]
          exact hb
        rw [chkOut, (check_ok h1 h3 h47 hs).1, (check_ok h1 h3 h47 hs).2, hb2]

theorem rRCheck {n : Int} {l : List (List Int)} (h1 : n.tmod 2 ≠ 0) (h3 : 3 ≤ n) (h47 : n ≤ 47) (hl : (l.length : Int) = (n + -1).tdiv 2) (hw : ∀ r ∈ l, r.length = 2) :
    ∀ f i : Nat, i + f = l.length → (∀ r ∈ l.take i, inside n r = true) →
    Runs I26 (tmsRCheck.map Tm.pre) ssRCheck 1 [{ i := n }, { l := l }, { i := (i : Int) }] (chkOut n l)
  | f, i, hi, hins => by
    refine Runs.step rfl ?_ ?_
    · simp only [tmsRCheck, List.map_cons, List.getD_cons_zero, List.getD_cons_succ, holds_cons_iff, E.den, BiO.den, UnO.den, decide_eq_true_eq, Bool.not_eq_true', beq_eq_false_iff_ne, beq_iff_eq]
      refine ⟨?_, ?_, ?_, ?_, hl, h1, Holds.nil⟩ <;> omega
    · simp only [StOk, E.den, BiO.den, UnO.den, TeO.den, I26, List.map_cons, List.map_nil, List.getD_cons_zero, List.getD_cons_succ, decide_eq_true_eq, decide_eq_false_iff_not, Int.toNat_natCast, Int.toNat_zero, show Int.toNat 1 = 1 from rfl, holds_cons_iff, holds_nil_iff]
      refine ⟨fun hlt => ?_, fun hge => ?_⟩
      · have hbad := @out_not n l h1 h3 h47 i (by omega)
        have hi' : i < l.length := by omega
        refine ⟨fun a => ?_, fun a => ⟨fun b => ?_, fun b => ⟨fun c => ?_, fun c => ⟨fun d => ?_, fun d => ?_⟩⟩⟩⟩
        · exact hbad fun h => by have := inside_iff.1 h; omega
        · exact hbad fun h => by have := inside_iff.1 h; omega
        · exact hbad fun h => by have := inside_iff.1 h; omega
        · exact hbad fun h => by have := inside_iff.1 h; omega
        · cases f with
          | zero => omega
          | succ f =>
            have hd : (n + -1).tdiv 2 = (n + -1) / 2 := Int.tdiv_eq_ediv_of_nonneg (by omega)
            rw [w64 (by omega) (by omega)]
            exact rRCheck h1 h3 h47 hl hw f (i + 1) (by omega) (inside_take hi' hins (inside_iff.2 ⟨by omega, by omega, by omega, by omega⟩))
      · obtain rfl : i = l.length := by omega
        rw [List.take_length] at hins
        refine ⟨⟨inside_elems h47 hw hins, trivial⟩, fun _ => ?_⟩
        refine rRCheckK h1 h3 h47 hl hw hins (n.toNat - 1) 1 _ (by omega) (by omega) ?_ (fun j h h' => by omega)
        rw [beq_iff_eq]
        constructor
        · intro h; exact ⟨by omega, fun j h h' => by omega⟩
        · intro h; have := h.1; omega

theorem vRCheck : cRCheck.Valid (cx [cTimes] [32]) I26 := by
  refine Ctr.valid_run resp26 (glIn _ _) (allOf (.cons (re vTimes) .nil)) (by decide) (by decide) (by kernel_rfl) rfl sRCheck [.i, .l] [.b, .i] (by decide) ?_
  intro ρ0 hρ hpre hwide
  obtain ⟨n, l, rfl⟩ := two_il hρ
  have hw : ∀ r ∈ l, r.length = 2 := hwide _ (List.mem_cons_self ..)
  refine ⟨chkOut n l, Runs.step rfl hpre ?_, rfl⟩
  simp only [StOk, E.den, BiO.den, UnO.den, List.map_cons, List.map_nil, List.getD_cons_zero, List.getD_cons_succ, decide_eq_true_eq, decide_eq_false_iff_not, beq_iff_eq, beq_eq_false_iff_ne, Bool.not_eq_true', Bool.not_eq_false']
  refine ⟨fun a => ?_, fun a => ⟨fun b => ?_, fun b => ⟨fun c => ?_, fun c => ⟨fun d => ?_, fun d => ?_⟩⟩⟩⟩
  · rw [chkOut, (check_arg (.inl a)).1, (check_arg (.inl a)).2]
  · rw [chkOut, (check_arg (.inr (.inl b))).1, (check_arg (.inr (.inl b))).2]
  · rw [chkOut, (check_arg (.inr (.inr c))).1, (check_arg (.inr (.inr c))).2]
  · have : starts n l ≠ true := fun hs => by
      have h5 := starts_len (by omega) hs
      have hd : (n + -1).tdiv 2 = (n + -1) / 2 := Int.tdiv_eq_ediv_of_nonneg (by omega)
      omega
    rw [chkOut, (check_not a (by omega) (by omega) this).1, (check_not a (by omega) (by omega) this).2]
  · exact rRCheck a (by omega) (by omega) (by omega) hw l.length 0 (by omega) (fun r h => by cases h)
end Go.Proofs.Ytohelfcinfpmaaa
