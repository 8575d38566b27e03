/- Chapter 26: HowellWrong. -/
import Derived.Test.YtohelfcinfpmaaaC26Zs
import Derived.Test.YtohelfcinfpmaaaC26F
import Derived.Test.YtohelfcinfpmaaaC26Sm
namespace Go.Proofs.Ytohelfcinfpmaaa
open Go Go.Sx Go.Proofs.C26

/-! ### a starter with one number changed is none -/
theorem occ_set (n w k : Int) : ∀ (l : List (List Int)) (i : Nat) (r : List Int), i < l.length → occ n (l.set i r) w k + occ1 n ((l.getD i []).getD 0 0) ((l.getD i []).getD 1 0) w k = occ n l w k + occ1 n (r.getD 0 0) (r.getD 1 0) w k
  | [], i, r, h => by simp at h
  | a :: l, 0, r, _ => by simp only [occ, List.set_cons_zero, List.map_cons, List.sum_cons, List.getD_cons_zero]; omega
  | a :: l, i + 1, r, h => by
    have ih := occ_set n w k l i r (by simpa using h)
    simp only [occ, List.set_cons_succ, List.map_cons, List.sum_cons, List.getD_cons_succ] at ih ⊢
    omega

theorem bad_check {n : Int} {l : List (List Int)} {i side : Nat} {x : Int} (hc : checkE n l = 0) (hi : i < l.length) (hw : (l.getD i []).length = 2) (hs : side < 2) (hx : x ≠ (l.getD i []).getD side 0) : checkE n (setAt l i side x) = 260 := by
  obtain ⟨ho, h3, h47, hins⟩ := checkE_0 hc
  have hst : starts n l = true := by
    unfold checkE at hc
    split at hc
    · cases hc
    · split at hc
      · assumption
      · cases hc
  have hg := get_inside hins hi
  refine (check_not ho h3 h47 ?_).2
  intro hbad
  have h1 := (starts_iff.1 hst).2
  have h2 := (starts_iff.1 hbad).2
  unfold setAt at h2
  generalize hr : l.getD i [] = r at *
  match r, hw with
  | [a, b], _ =>
    simp only [List.getD_cons_zero, List.getD_cons_succ] at hg
    match side, hs with
    | 0, _ =>
      simp only [List.getD_cons_zero] at hx
      have e := occ_set n 0 a l i (([a, b] : List Int).set 0 x) hi
      have q1 := (h1 a (by omega) (by omega)).1
      have q2 := (h2 a (by omega) (by omega)).1
      rw [hr, q1, q2] at e
      simp only [occ1, List.set_cons_zero, List.getD_cons_zero, List.getD_cons_succ, if_true, if_neg hx] at e
      omega
    | 1, _ =>
      simp only [List.getD_cons_zero, List.getD_cons_succ] at hx
      have e := occ_set n 0 b l i (([a, b] : List Int).set 1 x) hi
      have q1 := (h1 b (by omega) (by omega)).1
      have q2 := (h2 b (by omega) (by omega)).1
      rw [hr, q1, q2] at e
      simp only [occ1, List.set_cons_zero, List.set_cons_succ, List.getD_cons_zero, List.getD_cons_succ, if_true, if_neg hx] at e
      omega

theorem check_len {n : Int} {l : List (List Int)} (ho : n.tmod 2 ≠ 0) (h3 : 3 ≤ n) (h47 : n ≤ 47) (h : 2 * (l.length : Int) ≠ n - 1) : checkE n l = 260 :=
  (check_not ho h3 h47 fun hs => h (starts_len h3 hs)).2

theorem startL_width (t : Int) : ∀ r ∈ startL t, r.length = 2 := by
  intro r hr
  unfold startL at hr
  split at hr
  · obtain ⟨i, _, rfl⟩ := List.mem_map.1 hr
    unfold startRow
    simp only
    split <;> rfl
  · cases hr

theorem make_E2 {t k : Int} (h2 : 2 ≤ t) (h24 : t ≤ 24) : makeE t k = if k < 1 then 2 else if 2 * t + -1 < k then 5 else 0 := by
  have ok := start_ok h2 h24
  rw [make_E ok.e]
  unfold fromE
  rw [if_neg (fun e => e ok.c)]
theorem far_E {t : Int} (k : Int) (h : t < 2 ∨ 24 < t) : makeE t k = 2 := by
  have e := (start_far h).2
  rw [makeE_not (by rw [e]; decide), e]

theorem rWrongEnd {v0 t : Int} {i side : Nat} {x2 x3 x4 : Int} (h3 : 3 ≤ t) (h24 : t ≤ 24) (hi : i < (startL t).length) (hs : side < 2) (hv1 : -9223372036854775808 ≤ v0) (hv2 : v0 ≤ 9223372036854775807) :
    ∀ f j : Nat, j + f = 5 → Runs I26 (tmsLWrong.map Tm.pre) ssLWrong 1 [{ i := v0 }, { i := t }, { l := startL t }, { i := (i : Int) }, { i := (side : Int) }, { i := x2 }, { i := x3 }, { i := x4 }, { i := (j : Int) }] [{ b := true }]
  | f, j, hf => by
    have ok := start_ok (t := t) (by omega) h24
    have hl := ok.l
    have w2t : IntKind.wrap .i64 (2 * t) = 2 * t := w64 (by omega) (by omega)
    have w1 : IntKind.wrap .i64 (2 * t + -1) = 2 * t + -1 := w64 (by omega) (by omega)
    have w3 : IntKind.wrap .i64 (2 * t + 1) = 2 * t + 1 := w64 (by omega) (by omega)
    refine Runs.step rfl ?_ ?_
    · simp only [tmsLWrong, List.map_cons, List.getD_cons_zero, List.getD_cons_succ, holds_cons_iff, E.den, BiO.den, UnO.den, decide_eq_true_eq]
      refine ⟨?_, ?_, ?_, ?_, ?_, ?_, ?_, ?_, ?_, ?_, Holds.nil⟩ <;> omega
    · by_cases hj : j < 5
      · cases f with
        | zero => omega
        | succ f =>
          have ih := rWrongEnd (x2 := x2) (x3 := x3) (x4 := x4) h3 h24 hi hs hv1 hv2 f (j + 1) (by omega)
          refine br_t ?_ (ne_ed ?_ (ne_ed ?_ (ne_ed ?_ (ne_ed ?_ ?_))))
          · simp only [E.den, BiO.den, List.getD_cons_zero, List.getD_cons_succ, decide_eq_true_eq]; omega
          · simp only [E.den, BiO.den, UnO.den, List.getD_cons_zero, List.getD_cons_succ, holds_cons_iff, holds_nil_iff, Bool.not_eq_true', beq_eq_false_iff_ne]
            exact ⟨by omega, trivial⟩
          · simp only [E.den, BiO.den, UnO.den, List.getD_cons_zero, List.getD_cons_succ, holds_cons_iff, holds_nil_iff, decide_eq_true_eq]
            exact ⟨by omega, trivial⟩
          · simp only [E.den, BiO.den, UnO.den, List.getD_cons_zero, List.getD_cons_succ, holds_cons_iff, holds_nil_iff, decide_eq_true_eq]
            exact ⟨by omega, trivial⟩
          · simp only [E.den, BiO.den, List.getD_cons_zero, List.getD_cons_succ, holds_cons_iff, holds_nil_iff, decide_eq_true_eq]
            exact ⟨by omega, trivial⟩
          · simp only [StOk, E.den, BiO.den, UnO.den, TeO.den, I26, List.map_cons, List.map_nil, List.getD_cons_zero, List.getD_cons_succ, Int.toNat_natCast, Int.toNat_zero, w2t, w1, beq_iff_eq, beq_eq_false_iff_ne, holds_cons_iff, holds_nil_iff, decide_eq_true_eq, Bool.not_eq_true', Bool.not_eq_false']
            refine ⟨fun _ => ih, fun hx => ⟨⟨by rw [length_setAt]; omega, trivial⟩, fun _ => ?_⟩⟩
            have hw : ((startL t).getD i []).length = 2 := startL_width t _ (by rw [List.getD_eq_getElem?_getD, List.getElem?_eq_getElem hi]; exact List.getElem_mem hi)
            have hbad := bad_check ok.c hi hw hs hx
            have hE : fromE (2 * t + -1) 1 (setAt (startL t) i side (([[0], [v0], [x2], [x3], [x4]].getD j []).getD 0 0)) = 260 := by unfold fromE; rw [hbad]; rfl
            have hF : ∀ q, fromF q (2 * t + -1) 1 (setAt (startL t) i side (([[0], [v0], [x2], [x3], [x4]].getD j []).getD 0 0)) = 0 := fun q => by unfold fromF; rw [if_pos (by rw [hE]; decide)]
            have hR : fromR (2 * t + -1) 1 (setAt (startL t) i side (([[0], [v0], [x2], [x3], [x4]].getD j []).getD 0 0)) = [] := by unfold fromR; rw [if_pos (by rw [hE]; decide)]
            refine ⟨fun h => (h hE).elim, fun _ => ⟨⟨?_, hF _, hF _, hF _, hF _, hF _, trivial⟩, fun _ => ih⟩⟩
            rw [hR]; rfl
      · obtain rfl : j = 5 := by omega
        have ev : (2 * t).tmod 2 = 0 := Int.mul_tmod_right 2 t
        have od1 : (2 * t + -1).tmod 2 ≠ 0 := by rw [Int.tmod_eq_emod_of_nonneg (by omega)]; omega
        have od2 : (2 * t + 1).tmod 2 ≠ 0 := by rw [Int.tmod_eq_emod_of_nonneg (by omega)]; omega
        have htl : (((startL t).drop 1).take ((startL t).length + -1 : Int).toNat).length = (startL t).length - 1 := by
          rw [List.length_take, List.length_drop]; omega
        have c1 : checkE (2 * t + -1) (((startL t).drop 1).take ((startL t).length + -1 : Int).toNat) = 260 := check_len od1 (by omega) (by omega) (by rw [htl]; omega)
        have c2 : checkE (2 * t) (startL t) = 2 := (check_arg (.inl ev)).2
        refine br_f ?_ (ne_ed ?_ (ne_ed ?_ (ne_ed ?_ ?_)))
        · simp only [E.den, BiO.den, List.getD_cons_zero, List.getD_cons_succ, decide_eq_false_iff_not]; omega
        · simp only [E.den, BiO.den, UnO.den, List.getD_cons_zero, List.getD_cons_succ, holds_cons_iff, holds_nil_iff, decide_eq_true_eq]
          exact ⟨by omega, trivial⟩
        · simp only [E.den, BiO.den, UnO.den, List.getD_cons_zero, List.getD_cons_succ, holds_cons_iff, holds_nil_iff, decide_eq_true_eq, show Int.toNat 1 = 1 from rfl, htl]
          exact ⟨by omega, by omega, trivial⟩
        · simp only [E.den, BiO.den, UnO.den, List.getD_cons_zero, List.getD_cons_succ, holds_cons_iff, holds_nil_iff, decide_eq_true_eq]
          exact ⟨by omega, trivial⟩
        · simp only [StOk, E.den, BiO.den, UnO.den, I26, List.map_cons, List.map_nil, List.getD_cons_zero, List.getD_cons_succ, show Int.toNat 1 = 1 from rfl, w2t, w1, w3, c1, c2, beq_self_eq_true, true_implies, Bool.true_eq_false, false_implies, and_true]
          by_cases h47 : 2 * t + 1 ≤ 47
          · have c3 := check_len (l := startL t) od2 (by omega) h47 (by omega)
            rw [c3]
            exact ⟨fun _ => trivial, fun h => by cases h⟩
          · have c3 := (check_arg (n := 2 * t + 1) (l := startL t) (.inr (.inr (by omega)))).2
            rw [c3]
            exact ⟨fun h => (by cases h), fun _ => rfl⟩

theorem wrong_start {v0 t : Int} {v2 : Int} (h3 : 3 ≤ t) (h24 : t ≤ 24) (h0 : 0 ≤ v2) (h255 : v2 ≤ 255) (hv1 : -9223372036854775808 ≤ v0) (hv2 : v0 ≤ 9223372036854775807) (x2 x3 x4 : Int) :
    Runs I26 (tmsLWrong.map Tm.pre) ssLWrong 1 [{ i := v0 }, { i := t }, { l := startL t }, { i := v2.tmod ((startL t).length : Int) }, { i := (v2.tdiv 64).tmod 2 }, { i := x2 }, { i := x3 }, { i := x4 }, { i := 0 }] [{ b := true }] := by
  have hl := (start_ok (t := t) (by omega) h24).l
  have m1 := tmod_small h0 (show (0 : Int) < (startL t).length by omega)
  have hd : v2.tdiv 64 = v2 / 64 := Int.tdiv_eq_ediv_of_nonneg h0
  have m2 := tmod_small (show 0 ≤ v2.tdiv 64 by omega) (show (0 : Int) < 2 by omega)
  generalize v2.tmod ((startL t).length : Int) = p at m1 ⊢
  generalize (v2.tdiv 64).tmod 2 = q at m2 ⊢
  obtain ⟨i, rfl⟩ := Int.eq_ofNat_of_zero_le m1.1
  obtain ⟨side, rfl⟩ := Int.eq_ofNat_of_zero_le m2.1
  exact rWrongEnd h3 h24 (by omega) (by omega) hv1 hv2 5 0 rfl

theorem vWrong1 : cLWrong.Valid (cx [cPrimeT, cStart, cMake, cCheck, cCheckP, cFrom, cKSameN, cKAw] [8]) I26 := by
  refine Ctr.valid_run resp26 (glIn _ _) (allOf (.cons (re vPrimeT) (.cons (re vStart) (.cons (re vMake) (.cons (re vCheck) (.cons (re (vCheck.win 0 2 1 (by decide) (by decide) (by decide))) (.cons (re vFrom) (.cons (re vKSameN) (.cons (re vKAw) .nil))))))))) (by decide) (by decide) (by kernel_rfl) rfl sLWrong [.i, .i, .i] [.b] (by decide) ?_
  intro ρ0 hρ hpre _
  obtain ⟨v0, a, b, rfl⟩ := three_iii hρ
  have hp := hpre
  simp only [cLWrong, le', List.cons_append, List.nil_append, holds_cons_iff, E.den, BiO.den, List.getD_cons_zero, List.getD_cons_succ, decide_eq_true_eq] at hp
  obtain ⟨n0, n1, a0, a1, b0, b1, _⟩ := hp
  refine ⟨[{ b := true }], Runs.step rfl hpre ?_, rfl⟩
  have hm := tmod_small a0 (show (0 : Int) < 22 by omega)
  obtain ⟨t, hT⟩ : ∃ t, a.tmod 22 + 3 = t := ⟨_, rfl⟩
  have ok := start_ok (t := t) (by omega) (by omega)
  have hl := ok.l
  have m1 := tmod_small b0 (show (0 : Int) < (startL t).length by omega)
  have m2 : IntKind.wrap .i64 (b.tmod ((startL t).length : Int) + 1) = b.tmod ((startL t).length : Int) + 1 := w64 (by omega) (by omega)
  have m3 := tmod_small (show 0 ≤ b.tmod ((startL t).length : Int) + 1 by omega) (show (0 : Int) < (startL t).length by omega)
  have hgo := fun x2 x3 x4 => wrong_start (v0 := v0) (t := t) (v2 := b) (by omega) (by omega) b0 b1 n0 n1 x2 x3 x4
  have hE1 : makeE t (if 2 * t > v0 then 2 * t else v0) = 5 := by rw [make_E2 (by omega) (by omega)]; split <;> (rw [if_neg (by omega), if_pos (by omega)])
  have hE2 : makeE t 0 = 2 := by rw [make_E2 (by omega) (by omega)]; rfl
  have hE3 : makeE t (if 0 < v0 then 0 else v0) = 2 := by rw [make_E2 (by omega) (by omega)]; split <;> rw [if_pos (by omega)]
  have hE4 : makeE t (2 * t) = 5 := by rw [make_E2 (by omega) (by omega), if_neg (by omega), if_pos (by omega)]
  have far : ∀ q : Int, q < 2 ∨ 24 < q → primeV q = 0 ∧ hasP q = false ∧ startE q = 2 ∧ makeE q 1 = 2 := fun q hq => ⟨primeV_far hq, hasP_far hq, (start_far hq).2, far_E 1 hq⟩
  by_cases h2 : 2 ≤ v0
  · by_cases h24 : v0 ≤ 24
    · obtain ⟨f1, f2, f3, f4⟩ := far (v0 + 24) (by omega)
      refine br_t ?_ (br_t ?_ (br_f ?_ (br_f ?_ (br_f ?_ (br_f ?_ (br_f ?_ (br_f ?_ (br_f ?_ (ne_ed ?_ (ne_ed ?_ ?_))))))))))
      all_goals simp only [StOk, E.den, BiO.den, UnO.den, TeO.den, I26, List.map_cons, List.map_nil, List.getD_cons_zero, List.getD_cons_succ, hT, f1, f2, f3, f4, hE1, hE2, ok.e, m2, beq_self_eq_true, Bool.not_true, holds_cons_iff, holds_nil_iff, decide_eq_true_eq, Bool.not_eq_true', beq_eq_false_iff_ne]
      · omega
      · omega
      · exact ⟨by omega, trivial⟩
      · exact ⟨by omega, by omega, by omega, by omega, by omega, by omega, by omega, by omega, trivial⟩
      · exact hgo _ _ _
    · obtain ⟨f1, f2, f3, f4⟩ := far v0 (by omega)
      refine br_t ?_ (br_f ?_ (br_f ?_ (br_f ?_ (br_f ?_ (br_f ?_ (br_f ?_ (br_f ?_ (br_f ?_ (ne_ed ?_ (ne_ed ?_ ?_))))))))))
      all_goals simp only [StOk, E.den, BiO.den, UnO.den, TeO.den, I26, List.map_cons, List.map_nil, List.getD_cons_zero, List.getD_cons_succ, hT, f1, f2, f3, f4, hE1, hE2, ok.e, m2, beq_self_eq_true, Bool.not_true, holds_cons_iff, holds_nil_iff, decide_eq_true_eq, decide_eq_false_iff_not, Bool.not_eq_true', beq_eq_false_iff_ne]
      · omega
      · omega
      · exact ⟨by omega, trivial⟩
      · exact ⟨by omega, by omega, by omega, by omega, by omega, by omega, by omega, by omega, trivial⟩
      · exact hgo _ _ _
  · constructor
    · intro h
      simp only [E.den, BiO.den, List.getD_cons_zero, decide_eq_true_eq] at h
      omega
    · intro _
      obtain ⟨f1, f2, f3, f4⟩ := far v0 (by omega)
      refine br_f ?_ (br_f ?_ (br_f ?_ (br_f ?_ (br_f ?_ (br_f ?_ (br_f ?_ (ne_ed ?_ (ne_ed ?_ ?_))))))))
      all_goals simp only [StOk, E.den, BiO.den, UnO.den, TeO.den, I26, List.map_cons, List.map_nil, List.getD_cons_zero, List.getD_cons_succ, hT, f1, f2, f3, f4, hE3, hE4, ok.e, m2, beq_self_eq_true, Bool.not_true, holds_cons_iff, holds_nil_iff, decide_eq_true_eq, Bool.not_eq_true', beq_eq_false_iff_ne]
      · exact ⟨by omega, trivial⟩
      · exact ⟨by omega, by omega, by omega, by omega, by omega, by omega, by omega, by omega, trivial⟩
      · exact hgo _ _ _

theorem vWrong : ({ cLWrong with outs := [], res := .bool (.bl true) } : Ctr).Valid (cx [cPrimeT, cStart, cMake, cCheck, cCheckP, cFrom, cKSameN, cKAw] [8]) I26 := vWrong1.said resp26 rfl rfl (by decide)
end Go.Proofs.Ytohelfcinfpmaaa
