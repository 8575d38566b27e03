/- Chapter 26: HowellSmall. -/
import Derived.Test.YtohelfcinfpmaaaC26Zs
import Derived.Test.YtohelfcinfpmaaaC26F
import Derived.Test.YtohelfcinfpmaaaC26Sz
namespace Go.Proofs.Ytohelfcinfpmaaa
open Go Go.Sx Go.Proofs.C26

/-! ### lists of no pairs -/
theorem vKEq2N : cKEq2N.Valid (cx [] [25]) I26 := by
  refine Ctr.valid_run resp26 (glIn _ _) (fun c hc => by cases hc) (by decide) (by decide) (by kernel_rfl) rfl sKEq2N [.l] [.b] (by decide) ?_
  intro ρ0 hρ hpre _
  obtain ⟨a, rfl⟩ : ∃ a : List (List Int), ρ0 = [{ l := a }] := ⟨_, hρ⟩
  have hp := hpre
  simp only [cKEq2N, holds_cons_iff, E.den, BiO.den, UnO.den, List.getD_cons_zero, beq_iff_eq] at hp
  have h0 : a = [] := by cases a with | nil => rfl | cons x l => simp at hp; omega
  subst h0
  exact ⟨_, runs_of (by kernel_rfl : decide (goN I26 (tmsKEq2N.map Tm.pre) ssKEq2N 4 0 [{ l := [] }] = some [{ b := true }]) = true), rfl⟩

theorem nil_starts {n : Int} (h : starts n [] = true) : n < 2 := by
  obtain ⟨_, h2⟩ := starts_iff.1 h
  rcases Int.lt_or_le n 2 with h | h
  · exact h
  · have := (h2 1 (by omega) (by omega)).1
    simp [occ] at this

theorem vRCheckN : cRCheckN.Valid (cx [cTimes] [32]) I26 := by
  refine Ctr.valid_run resp26 (glIn _ _) (allOf (.cons (re vTimes) .nil)) (by decide) (by decide) (by kernel_rfl) rfl sRCheckN [.i] [.b, .i] (by decide) ?_
  intro ρ0 hρ hpre _
  obtain ⟨n, rfl⟩ := one_i hρ
  refine ⟨chkOut n [], Runs.step rfl hpre ?_, rfl⟩
  simp only [StOk, E.den, BiO.den, UnO.den, List.map_cons, List.map_nil, List.getD_cons_zero, decide_eq_true_eq, decide_eq_false_iff_not, beq_iff_eq, beq_eq_false_iff_ne, Bool.not_eq_true', Bool.not_eq_false']
  refine ⟨fun a => ?_, fun a => ⟨fun b => ?_, fun b => ⟨fun c => ?_, fun c => ⟨fun d => ?_, fun d => ?_⟩⟩⟩⟩
  · rw [chkOut, (check_arg (.inl a)).1, (check_arg (.inl a)).2]
  · rw [chkOut, (check_arg (.inr (.inl b))).1, (check_arg (.inr (.inl b))).2]
  · rw [chkOut, (check_arg (.inr (.inr c))).1, (check_arg (.inr (.inr c))).2]
  · have : starts n [] ≠ true := fun hs => by have := nil_starts hs; omega
    rw [chkOut, (check_not a (by omega) (by omega) this).1, (check_not a (by omega) (by omega) this).2]
  · exfalso
    have hd : (n + -1).tdiv 2 = (n + -1) / 2 := Int.tdiv_eq_ediv_of_nonneg (by omega)
    omega

theorem checkE_nil (n : Int) : checkE n [] ≠ 0 := by
  intro h
  obtain ⟨_, h3, _, _⟩ := checkE_0 h
  have := checkE_len h
  simp at this
  omega

theorem vRFromN : cRFromN.Valid (cx [cRCheckN] [33]) I26 := by
  refine Ctr.valid_run resp26 (glIn _ _) (allOf (.cons (re vRCheckN) .nil)) (by decide) (by decide) (by kernel_rfl) rfl sRFromN [.i, .i] [.i] (by decide) ?_
  intro ρ0 hρ hpre _
  obtain ⟨n, k, rfl⟩ := two_ii hρ
  have he : fromE n k [] = checkE n [] := by unfold fromE; rw [if_pos (checkE_nil n)]
  refine ⟨[{ i := fromE n k [] }], Runs.step rfl hpre ?_, rfl⟩
  rw [he]
  first | rfl | (simp only [StOk, E.den, BiO.den, UnO.den, I26, List.map_cons, List.map_nil, List.getD_cons_zero, Bool.not_eq_true', Bool.not_eq_false', beq_iff_eq, beq_eq_false_iff_ne]; exact ⟨fun _ => trivial, fun h => (checkE_nil n h).elim⟩)

theorem own_is (l R Q : List (List Int)) (x : List Int) : (((l ++ R).take l.length ++ [x] ++ Q).drop 0).take l.length = l := by
  rw [List.drop_zero, List.take_left' rfl, List.append_assoc, List.take_left' rfl]

theorem vKFroms : cKFroms.Valid (cx [cCheck, cCheckP, cRCheck, cFrom, cFromP, cRFrom, cKEq2, cKEq2P, cKSame] []) I26 := by
  refine Ctr.valid_run resp26 (glIn _ _) (allOf (.cons (re vCheck) (.cons (re (vCheck.win 0 2 1 (by decide) (by decide) (by decide))) (.cons (re vRCheck) (.cons (re vFrom) (.cons (re (vFrom.win 0 2 2 (by decide) (by decide) (by decide))) (.cons (re vRFrom) (.cons (re vKEq2) (.cons (re (vKEq2.win 0 2 0 (by decide) (by decide) (by decide))) (.cons (re vKSame) .nil)))))))))) (by decide) (by decide) (by kernel_rfl) rfl sKFroms [.i, .i, .l] [.b] (by decide) ?_
  intro ρ0 hρ hpre _
  obtain ⟨n, k, l, rfl⟩ := three_iil hρ
  have hp := hpre
  simp only [cKFroms, few, holds_cons_iff, E.den, BiO.den, UnO.den, List.getD_cons_zero, List.getD_cons_succ, decide_eq_true_eq] at hp
  obtain ⟨h100, _⟩ := hp
  have hlen : (fromR n k l).length ≤ 5000 := by
    have := @fromR_len n k l
    have h2 : 47 * (l.length + 1) ≤ 47 * 101 := Nat.mul_le_mul_left _ (by omega)
    omega
  refine ⟨[{ b := true }], Runs.step rfl hpre ?_, rfl⟩
  refine ne_ed ?_ (br_t ?_ (ne_ed ?_ (br_t ?_ (br_t ?_ (ne_ed ?_ ?_)))))
  all_goals simp only [StOk, E.den, BiO.den, UnO.den, I26, List.map_cons, List.map_nil, List.getD_cons_zero, List.getD_cons_succ, Int.toNat_zero, Int.toNat_natCast, own_is, eqR_refl, beq_self_eq_true, holds_cons_iff, holds_nil_iff, decide_eq_true_eq, and_true]
  · refine ⟨?_, by omega⟩
    simp only [List.length_append, List.length_take, List.length_drop, List.length_replicate, List.length_cons, List.length_nil]
    omega
  · omega

theorem fromE_nil {n k : Int} {l : List (List Int)} (h : checkE n l ≠ 0) : fromE n k l = checkE n l := by unfold fromE; rw [if_pos h]

theorem vKFromsN : cKFromsN.Valid (cx [cCheck, cCheckP, cRCheckN, cFrom, cFromP, cRFromN, cKEq2N, cKEq2NP, cKSame, cKSameN] []) I26 := by
  refine Ctr.valid_run resp26 (glIn _ _) (allOf (.cons (re vCheck) (.cons (re (vCheck.win 0 2 1 (by decide) (by decide) (by decide))) (.cons (re vRCheckN) (.cons (re vFrom) (.cons (re (vFrom.win 0 2 2 (by decide) (by decide) (by decide))) (.cons (re vRFromN) (.cons (re vKEq2N) (.cons (re (vKEq2N.win 0 2 0 (by decide) (by decide) (by decide))) (.cons (re vKSame) (.cons (re vKSameN) .nil))))))))))) (by decide) (by decide) (by kernel_rfl) rfl sKFromsN [.i, .i] [.b] (by decide) ?_
  intro ρ0 hρ hpre _
  obtain ⟨n, k, rfl⟩ := two_ii hρ
  have hE : fromE n k [] ≠ 0 := by rw [fromE_nil (checkE_nil n)]; exact checkE_nil n
  have hF : ∀ j, fromF j n k [] = 0 := fun j => by unfold fromF; rw [if_pos hE]
  have hR : fromR n k [] = [] := by unfold fromR; rw [if_pos hE]
  have ho : ((([[-71, 72], [0, 0]] : List (List Int)).drop 0).take 0) = [] := rfl
  refine ⟨[{ b := true }], Runs.step rfl hpre ?_, rfl⟩
  refine ne_ed ?_ (br_t ?_ (ne_ed ?_ (br_t ?_ (br_t ?_ (ne_ed ?_ ?_)))))
  all_goals simp only [StOk, E.den, BiO.den, UnO.den, I26, List.map_cons, List.map_nil, List.getD_cons_zero, List.getD_cons_succ, Int.toNat_zero, ho, hF, hR, List.length_nil, beq_self_eq_true, holds_cons_iff, holds_nil_iff, decide_eq_true_eq, and_true]
  all_goals first | rfl | decide | omega

/-! ### the loops of HowellSmall -/
def smallAt (L : List (List Int)) (len : Nat) : Prop := L.length = len ∧ 1 ≤ len ∧ len ≤ 23

theorem bit_and : ((List.range 30).all fun m => decide (0 ≤ bitsOp .and .i64 ((m : Int) - 1) 1) && decide (bitsOp .and .i64 ((m : Int) - 1) 1 < 2)) = true := by kernel_rfl
theorem bit_and_of {k : Int} (h1 : -1 ≤ k) (h2 : k ≤ 20) : 0 ≤ bitsOp .and .i64 k 1 ∧ bitsOp .and .i64 k 1 < 2 := by
  have := List.all_eq_true.1 bit_and (k + 1).toNat (List.mem_range.2 (by omega))
  rw [show (((k + 1).toNat : Nat) : Int) - 1 = k from by omega] at this
  simpa using this

theorem rS8 {good : List (List Int)} {len : Nat} {n k : Int} {i q : Nat} (hg : good.length = len) (h1 : 1 ≤ len) (h23 : len ≤ 23) (hn1 : 3 ≤ n) (hn2 : n ≤ 13) (hk1 : -1 ≤ k) (hk2 : k ≤ n) (hi : i < len) (hq : q < 4) {out : List U}
    (hnext : Runs I26 (tmsLSmall.map Tm.pre) ssLSmall 7 [{ i := k + 1 }, { i := (i : Int) }, { l := good }, { i := n }, { i := (q : Int) }, { i := (len : Int) }] out) :
    ∀ (f j : Nat) (other : List (List Int)), j + f = len → other.length = len →
      Runs I26 (tmsLSmall.map Tm.pre) ssLSmall 8 [{ l := other }, { i := (j : Int) }, { i := k }, { i := (i : Int) }, { l := good }, { i := n }, { i := (q : Int) }, { i := (len : Int) }, { i := (len : Int) }] out
  | f, j, other, hf, ho => by
    have hb := bit_and_of hk1 (by omega)
    refine Runs.step rfl ?_ ?_
    · simp only [tmsLSmall, List.map_cons, List.getD_cons_zero, List.getD_cons_succ, holds_cons_iff, E.den, BiO.den, UnO.den, decide_eq_true_eq, beq_iff_eq]
      refine ⟨?_, ?_, ?_, ?_, ?_, ?_, ?_, hb.1, hb.2, ?_, ?_, ?_, ?_, Holds.nil⟩ <;> omega
    · by_cases hj : j < len
      · cases f with
        | zero => omega
        | succ f =>
          refine br_t ?_ (ne_ed ?_ ?_)
          · simp only [E.den, BiO.den, List.getD_cons_zero, List.getD_cons_succ, decide_eq_true_eq]; omega
          · simp only [E.den, BiO.den, UnO.den, List.getD_cons_zero, List.getD_cons_succ, holds_cons_iff, holds_nil_iff, Bool.not_eq_true', beq_eq_false_iff_ne]
            refine ⟨?_, ?_, ?_, ?_, trivial⟩ <;> omega
          · simp only [StOk, E.den, BiO.den, UnO.den, TeO.den, List.map_cons, List.map_nil, List.getD_cons_zero, List.getD_cons_succ]
            exact rS8 hg h1 h23 hn1 hn2 hk1 hk2 hi hq hnext f (j + 1) _ (by omega) (by rw [length_setAt, length_setAt]; exact ho)
      · refine br_f ?_ (ne_ed ?_ ?_)
        · simp only [E.den, BiO.den, List.getD_cons_zero, List.getD_cons_succ, decide_eq_false_iff_not]; omega
        · simp only [E.den, BiO.den, UnO.den, List.getD_cons_zero, holds_cons_iff, holds_nil_iff, decide_eq_true_eq]
          exact ⟨by omega, trivial⟩
        · simp only [StOk, E.den, BiO.den, UnO.den, List.map_cons, List.map_nil, List.getD_cons_zero, List.getD_cons_succ]
          rw [w64 (by omega) (by omega)]
          exact hnext

theorem rS7 {good : List (List Int)} {len : Nat} {n : Int} {i q : Nat} (hg : good.length = len) (h1 : 1 ≤ len) (h23 : len ≤ 23) (hn1 : 3 ≤ n) (hn2 : n ≤ 13) (hi : i < len) (hq : q < 4) {out : List U}
    (hnext : Runs I26 (tmsLSmall.map Tm.pre) ssLSmall 6 [{ i := ((i + 1 : Nat) : Int) }, { l := good }, { i := n }, { i := (q : Int) }, { i := (len : Int) }] out) :
    ∀ (f : Nat) (k : Int), k + f = n + 1 → -1 ≤ k →
      Runs I26 (tmsLSmall.map Tm.pre) ssLSmall 7 [{ i := k }, { i := (i : Int) }, { l := good }, { i := n }, { i := (q : Int) }, { i := (len : Int) }] out
  | f, k, hf, hk1 => by
    refine Runs.step rfl ?_ ?_
    · simp only [tmsLSmall, List.map_cons, List.getD_cons_zero, List.getD_cons_succ, holds_cons_iff, E.den, BiO.den, UnO.den, decide_eq_true_eq, beq_iff_eq]
      refine ⟨?_, ?_, ?_, ?_, Holds.nil⟩ <;> omega
    · by_cases hk : k ≤ n
      · cases f with
        | zero => omega
        | succ f =>
          have hb := bit_and_of hk1 (by omega)
          refine br_t ?_ (ne_ed ?_ (ne_ed ?_ (ne_ed ?_ (ne_ed ?_ (ne_ed ?_ ?_)))))
          all_goals simp only [StOk, E.den, BiO.den, UnO.den, List.map_cons, List.map_nil, List.getD_cons_zero, List.getD_cons_succ, holds_cons_iff, holds_nil_iff, decide_eq_true_eq, Bool.not_eq_true', beq_eq_false_iff_ne, length_setAt]
          · omega
          · exact ⟨by omega, trivial⟩
          · exact ⟨by omega, trivial⟩
          · exact ⟨by omega, trivial⟩
          · exact ⟨hb.1, hb.2, trivial⟩
          · exact ⟨by omega, trivial⟩
          · rw [hg]
            exact rS8 hg h1 h23 hn1 hn2 hk1 hk hi hq (rS7 hg h1 h23 hn1 hn2 hi hq hnext f (k + 1) (by omega) (by omega)) len 0 good (by omega) hg
      · refine br_f ?_ ?_
        · simp only [E.den, BiO.den, List.getD_cons_zero, List.getD_cons_succ, decide_eq_false_iff_not]; omega
        · simp only [StOk, E.den, BiO.den, UnO.den, List.map_cons, List.map_nil, List.getD_cons_zero, List.getD_cons_succ]
          rw [w64 (by omega) (by omega)]
          exact hnext

theorem rS6 {good : List (List Int)} {len : Nat} {n : Int} {q : Nat} (hg : good.length = len) (h1 : 1 ≤ len) (h23 : len ≤ 23) (hn1 : 3 ≤ n) (hn2 : n ≤ 13) (hq : q < 4) {out : List U}
    (hnext : Runs I26 (tmsLSmall.map Tm.pre) ssLSmall 5 [{ i := ((q + 1 : Nat) : Int) }] out) :
    ∀ f i : Nat, i + f = len → Runs I26 (tmsLSmall.map Tm.pre) ssLSmall 6 [{ i := (i : Int) }, { l := good }, { i := n }, { i := (q : Int) }, { i := (len : Int) }] out
  | f, i, hf => by
    refine Runs.step rfl ?_ ?_
    · simp only [tmsLSmall, List.map_cons, List.getD_cons_zero, List.getD_cons_succ, holds_cons_iff, E.den, BiO.den, UnO.den, decide_eq_true_eq, beq_iff_eq]
      refine ⟨?_, ?_, ?_, Holds.nil⟩ <;> omega
    · by_cases hi : i < len
      · cases f with
        | zero => omega
        | succ f =>
          refine br_t ?_ ?_
          · simp only [E.den, BiO.den, List.getD_cons_zero, List.getD_cons_succ, decide_eq_true_eq]; omega
          · simp only [StOk, E.den, List.map_cons, List.map_nil, List.getD_cons_zero, List.getD_cons_succ]
            exact rS7 hg h1 h23 hn1 hn2 hi hq (rS6 hg h1 h23 hn1 hn2 hq hnext f (i + 1) (by omega)) (n.toNat + 2) (-1) (by omega) (by omega)
      · refine br_f ?_ (ne_ed ?_ (ne_ed ?_ (ne_ed ?_ (ne_ed ?_ ?_))))
        all_goals simp only [StOk, E.den, BiO.den, UnO.den, TeO.den, List.map_cons, List.map_nil, List.getD_cons_zero, List.getD_cons_succ, holds_cons_iff, holds_nil_iff, decide_eq_true_eq, decide_eq_false_iff_not]
        · omega
        · exact ⟨by omega, trivial⟩
        · exact ⟨by omega, trivial⟩
        · refine ⟨by omega, ?_, trivial⟩
          rw [List.length_take, List.length_drop]
          omega
        · refine ⟨?_, trivial⟩
          rw [List.length_append, List.length_singleton]
          omega
        · exact hnext

theorem tab_facts : ((List.range 4).all fun q => let t := ([2, 4, 5, 7] : List Int).getD q 0; decide (1 ≤ (startL t).length) && decide (3 ≤ 2 * t + -1) && decide (2 * t + -1 ≤ 13)) = true := by kernel_rfl

theorem rS5 : ∀ f q : Nat, q + f = 4 → Runs I26 (tmsLSmall.map Tm.pre) ssLSmall 5 [{ i := (q : Int) }] [{ b := true }]
  | f, q, hf => by
    refine Runs.step rfl ?_ ?_
    · simp only [tmsLSmall, List.map_cons, List.getD_cons_zero, List.getD_cons_succ, holds_cons_iff, E.den, BiO.den, decide_eq_true_eq]
      refine ⟨?_, ?_, Holds.nil⟩ <;> omega
    · by_cases hq : q < 4
      · cases f with
        | zero => omega
        | succ f =>
          have ht := List.all_eq_true.1 tab_facts q (List.mem_range.2 hq)
          simp only [Bool.and_eq_true, decide_eq_true_eq] at ht
          refine br_t ?_ ?_
          · simp only [E.den, BiO.den, List.getD_cons_zero, decide_eq_true_eq]; omega
          · simp only [StOk, E.den, BiO.den, UnO.den, I26, List.map_cons, List.map_nil, List.getD_cons_zero, Int.toNat_natCast]
            have hl := startL_len (([2, 4, 5, 7] : List Int).getD q 0)
            exact rS6 (len := (startL (([2, 4, 5, 7] : List Int).getD q 0)).length) rfl ht.1.1 hl ht.1.2 ht.2 hq (rS5 f (q + 1) (by omega)) (startL (([2, 4, 5, 7] : List Int).getD q 0)).length 0 (by omega)
      · refine br_f ?_ (ne_ed ?_ (ne_ed ?_ (ne_ed ?_ (ne_ed ?_ ?_))))
        all_goals simp only [StOk, E.den, BiO.den, UnO.den, I26, List.map_cons, List.map_nil, List.getD_cons_zero, holds_cons_iff, holds_nil_iff, decide_eq_false_iff_not, Bool.not_eq_true', beq_eq_false_iff_ne]
        · omega
        · exact ⟨by simp, trivial⟩
        · exact ⟨checkE_nil _, trivial⟩
        · exact ⟨checkE_nil _, trivial⟩
        · exact ⟨checkE_nil _, trivial⟩

theorem rS4 : ∀ f n : Nat, n + f = 625 → Runs I26 (tmsLSmall.map Tm.pre) ssLSmall 4 [{ i := (n : Int) }] [{ b := true }]
  | f, n, hf => by
    refine Runs.step rfl ?_ ?_
    · simp only [tmsLSmall, List.map_cons, List.getD_cons_zero, List.getD_cons_succ, holds_cons_iff, E.den, BiO.den, decide_eq_true_eq]
      refine ⟨?_, ?_, Holds.nil⟩ <;> omega
    · by_cases hn : n < 625
      · cases f with
        | zero => omega
        | succ f =>
          refine br_t ?_ (ne_ed ?_ ?_)
          all_goals simp only [StOk, E.den, BiO.den, UnO.den, I26, List.map_cons, List.map_nil, List.getD_cons_zero, holds_cons_iff, holds_nil_iff, decide_eq_true_eq]
          · omega
          · exact ⟨by simp, trivial⟩
          · exact rS4 f (n + 1) (by omega)
      · refine br_f ?_ ?_
        · simp only [E.den, BiO.den, List.getD_cons_zero, decide_eq_false_iff_not]; omega
        · exact rS5 4 0 rfl

theorem rS3 : ∀ (f : Nat) (p : Int), p + f = 120 → -2 ≤ p → Runs I26 (tmsLSmall.map Tm.pre) ssLSmall 3 [{ i := p }] [{ b := true }]
  | f, p, hf, hp => by
    refine Runs.step rfl Holds.nil ?_
    simp only [StOk, E.den, BiO.den, UnO.den, I26, List.map_cons, List.map_nil, List.getD_cons_zero, decide_eq_true_eq, decide_eq_false_iff_not]
    refine ⟨fun h => ?_, fun h => rS4 625 0 rfl⟩
    cases f with
    | zero => omega
    | succ f =>
      rw [w64 (by omega) (by omega)]
      exact ⟨fun _ => rS3 f (p + 1) (by omega) (by omega), fun _ => rS3 f (p + 1) (by omega) (by omega)⟩

theorem rS2 {t : Int} (ht1 : -1 ≤ t) (ht2 : t ≤ 26) {a b c : Int} {out : List U} (hnext : Runs I26 (tmsLSmall.map Tm.pre) ssLSmall 1 [{ i := t + 1 }] out) : ∀ f j : Nat, j + f = 6 →
    Runs I26 (tmsLSmall.map Tm.pre) ssLSmall 2 [{ i := (j : Int) }, { i := t }, { i := a }, { i := b }, { i := c }] out
  | f, j, hf => by
    refine Runs.step rfl ?_ ?_
    · simp only [tmsLSmall, List.map_cons, List.getD_cons_zero, List.getD_cons_succ, holds_cons_iff, E.den, BiO.den, decide_eq_true_eq]
      refine ⟨?_, ?_, ?_, ?_, Holds.nil⟩ <;> omega
    · simp only [StOk, E.den, BiO.den, I26, List.map_cons, List.map_nil, List.getD_cons_zero, List.getD_cons_succ, decide_eq_true_eq, decide_eq_false_iff_not]
      refine ⟨fun h => ?_, fun h => hnext⟩
      cases f with
      | zero => omega
      | succ f => exact rS2 ht1 ht2 hnext f (j + 1) (by omega)

theorem rS1 : ∀ (f : Nat) (t : Int), t + f = 27 → -1 ≤ t → Runs I26 (tmsLSmall.map Tm.pre) ssLSmall 1 [{ i := t }] [{ b := true }]
  | f, t, hf, ht => by
    refine Runs.step rfl ?_ ?_
    · simp only [tmsLSmall, List.map_cons, List.getD_cons_zero, List.getD_cons_succ, holds_cons_iff, E.den, BiO.den, decide_eq_true_eq]
      exact ⟨by omega, Holds.nil⟩
    · simp only [StOk, E.den, BiO.den, I26, List.map_cons, List.map_nil, List.getD_cons_zero, decide_eq_true_eq, decide_eq_false_iff_not]
      refine ⟨fun h => ?_, fun h => rS3 122 (-2) (by omega) (by omega)⟩
      cases f with
      | zero => omega
      | succ f => exact rS2 ht (by omega) (rS1 f (t + 1) (by omega) (by omega)) 6 0 rfl

theorem vSmall1 : cLSmall.Valid (cx [cRStart, cKTells, cKFroms, cKFromsP, cKFromsN, cKAw] [7]) I26 := by
  refine Ctr.valid_run resp26 (glIn _ _) (allOf (.cons (re vRStart) (.cons (re vKTells) (.cons (re vKFroms) (.cons (re (vKFroms.win 0 2 2 (by decide) (by decide) (by decide))) (.cons (re vKFromsN) (.cons (re vKAw) .nil))))))) (by decide) (by decide) (by kernel_rfl) rfl sLSmall [] [.b] (by decide) ?_
  intro ρ0 hρ hpre _
  obtain rfl : ρ0 = [] := hρ
  exact ⟨[{ b := true }], Runs.step rfl hpre (rS1 28 (-1) (by omega) (by omega)), rfl⟩

theorem vSmall : ({ cLSmall with outs := [], res := .bool (.bl true) } : Ctr).Valid (cx [cRStart, cKTells, cKFroms, cKFromsP, cKFromsN, cKAw] [7]) I26 := vSmall1.said resp26 rfl rfl (by decide)
end Go.Proofs.Ytohelfcinfpmaaa
