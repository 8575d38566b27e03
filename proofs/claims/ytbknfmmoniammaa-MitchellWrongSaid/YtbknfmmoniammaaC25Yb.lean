/- Chapter 25: fair. -/
import Derived.Test.YtbknfmmoniammaaC25Ya
import Derived.Test.YtbknfmmoniammaaC25Tf
import Derived.Test.YtbknfmmoniammaaSxVI
namespace Go.Proofs.Ytbknfmmoniammaa
open Go Go.Sx Go.Proofs.C25

theorem sub_count {l : List (List Int)} {f : List Int → List (List Int)} (hf : ∀ r, (f r).length ≤ 2) : (l.flatMap f).length ≤ 2 * l.length := by
  induction l with
  | nil => simp
  | cons x l ih => rw [List.flatMap_cons, List.length_append, List.length_cons]; have := hf x; omega
theorem sitKeys_len (r : List Int) : (sitKeys r).length ≤ 2 := by
  unfold sitKeys; rw [List.length_map]; exact List.length_filter_le _ _
theorem playKeys_len (r : List Int) : (playKeys r).length ≤ 2 := by
  unfold playKeys; rw [List.length_map]; exact List.length_filter_le _ _
theorem meetKeys_len (r : List Int) : (meetKeys r).length ≤ 2 := by
  unfold meetKeys; split <;> simp
theorem not_before {A B : List (List Int)} {x : List Int} {f : List Int → List (List Int)} (h : ((A ++ x :: B).flatMap f).Nodup) : (f x).Nodup ∧ ∀ k ∈ f x, k ∉ A.flatMap f := by
  rw [List.flatMap_append, List.flatMap_cons, List.nodup_append] at h
  obtain ⟨_, h2, h3⟩ := h
  rw [List.nodup_append] at h2
  exact ⟨h2.1, fun k hk hA => h3 k hA k (List.mem_append_left _ hk) rfl⟩
theorem flat_snoc (A : List (List Int)) (x : List Int) (f : List Int → List (List Int)) : (A ++ [x]).flatMap f = A.flatMap f ++ f x := by simp

theorem fairP_iff {T R S C : Int} {rows : List (List Int)} : fairP [T, R, S, C] rows = true ↔ FairM T R S C rows := @decide_eq_true_iff _ (Classical.propDecidable _)

theorem rFair1 {T R S C W : Int} {rows : List (List Int)} (hF : FairM T R S C rows) (hl : rows.length ≤ 5000) : ∀ (B A : List (List Int)), A ++ B = rows →
    ∀ m1 m2 m3 m4, Cnt m1 (A.flatMap sitKeys) → Cnt m2 (A.flatMap playKeys) → Cnt m3 (A.flatMap meetKeys) → Cnt m4 (A.map standKey) →
    Runs I25 (tmsFair.map Tm.pre) ssFair 1 [{ i := T }, { i := R }, { i := S }, { i := C }, { i := W }, { l := rows }, { l := m1 }, { l := m2 }, { l := m3 }, { l := m4 }, { i := (A.length : Int) }] [{ b := true }]
  | B, A, hAB, m1, m2, m3, m4, h1, h2, h3, h4 => by
    have hfp : fairP [T, R, S, C] rows = true := fairP_iff.2 hF
    have hlen : A.length + B.length = rows.length := by rw [← hAB, List.length_append]
    refine Runs.step rfl ?_ ?_
    · simp only [tmsFair, List.map_cons, List.getD_cons_zero, List.getD_cons_succ, holds_cons_iff, E.den, BiO.den, UnO.den, decide_eq_true_eq]
      exact ⟨by omega, by omega, by omega, hfp, Holds.nil⟩
    cases B with
    | nil =>
      refine br_f ?_ rfl
      simp only [E.den, BiO.den, UnO.den, List.getD_cons_zero, List.getD_cons_succ, decide_eq_false_iff_not]
      simp at hlen; omega
    | cons x B =>
      have hx : x ∈ rows := by rw [← hAB]; simp
      have hrow := hF.row x hx
      have hget : rows.getD A.length [] = x := by rw [← hAB]; exact getD_at
      have n1 := not_before (f := sitKeys) (by rw [hAB]; exact hF.sits)
      have n2 := not_before (f := playKeys) (by rw [hAB]; exact hF.plays)
      have n3 := not_before (f := meetKeys) (by rw [hAB]; exact hF.meets)
      have n4 := hF.stands (standKey x)
      rw [← hAB, List.map_append, List.map_cons, List.count_append, List.count_cons_self] at n4
      have q1 : (A.flatMap sitKeys).length ≤ 900000 := by have := sub_count (l := A) sitKeys_len; omega
      have q2 : (A.flatMap playKeys).length ≤ 900000 := by have := sub_count (l := A) playKeys_len; omega
      have q3 : (A.flatMap meetKeys).length ≤ 900000 := by have := sub_count (l := A) meetKeys_len; omega
      have q4 : (A.map standKey).length ≤ 900000 := by rw [List.length_map]; omega
      have e1 : sitKeys x = ([x.getD 2 0, x.getD 3 0].filter fun p => p != 0).map fun p => [x.getD 0 0, p] := rfl
      have e2 : playKeys x = ([x.getD 2 0, x.getD 3 0].filter fun p => p != 0).map fun p => [p, x.getD 4 0] := rfl
      have e3 : meetKeys x = if x.getD 2 0 * x.getD 3 0 = 0 then [] else [[if x.getD 3 0 < x.getD 2 0 then x.getD 3 0 else x.getD 2 0, if x.getD 3 0 > x.getD 2 0 then x.getD 3 0 else x.getD 2 0]] := rfl
      have e4 : standKey x = [x.getD 0 0, x.getD 4 0] := rfl
      obtain ⟨⟨r0, r0'⟩, ⟨r1, r1'⟩, ⟨r2, r2'⟩, ⟨r3, r3'⟩, ⟨r4, r4'⟩⟩ := hrow
      have ih := fun m1 m2 m3 m4 h1 h2 h3 h4 => rFair1 (W := W) hF hl B (A ++ [x]) (by rw [List.append_assoc]; exact hAB) m1 m2 m3 m4 h1 h2 h3 h4
      rw [flat_snoc, flat_snoc, flat_snoc, List.map_append, List.map_cons, List.map_nil, List.length_append, List.length_cons, List.length_nil, Nat.zero_add, Int.natCast_add, Int.natCast_one] at ih
      have hstart : ((A.length : Nat) : Int) < rows.length := by simp at hlen; omega
      -- the second half
      have go2 : ∀ m1' m2', Cnt m1' (A.flatMap sitKeys ++ sitKeys x) → Cnt m2' (A.flatMap playKeys ++ playKeys x) →
          Runs I25 (tmsFair.map Tm.pre) ssFair 2 [{ i := T }, { i := R }, { i := S }, { i := C }, { i := W }, { l := rows }, { l := m1' }, { l := m2' }, { l := m3 }, { l := m4 }, { i := x.getD 0 0 }, { i := x.getD 1 0 }, { i := x.getD 2 0 }, { i := x.getD 3 0 }, { i := x.getD 4 0 }, { i := (A.length : Int) }] [{ b := true }] := by
        intro m1' m2' h1' h2'
        have hs := h4.bump (by omega) (x.getD 0 0) (x.getD 4 0)
        rw [← e4] at hs
        have hc : cntAt (bump m4 (x.getD 0 0) (x.getD 4 0)) [x.getD 0 0, x.getD 4 0] ≤ C := by
          rw [← e4, hs _ rfl, List.count_append, List.count_singleton_self]; omega
        refine Runs.step rfl ?_ ?_
        · simp only [tmsFair, List.map_cons, List.getD_cons_zero, List.getD_cons_succ, holds_cons_iff, E.den, BiO.den, UnO.den, decide_eq_true_eq]
          exact ⟨by omega, hstart, by omega, hfp, Holds.nil⟩
        have hmul : IntKind.wrap .i64 (x.getD 2 0 * x.getD 3 0) = x.getD 2 0 * x.getD 3 0 := by
          have : x.getD 2 0 * x.getD 3 0 ≤ 1000 * 1000 := Int.mul_le_mul r2' r3' r3 (by omega)
          have : 0 ≤ x.getD 2 0 * x.getD 3 0 := Int.mul_nonneg r2 r3
          exact w64 (by omega) (by omega)
        refine br_f ?_ (br_f ?_ (br_f ?_ (br_f ?_ (br_f ?_ (br_f ?_ (br_f ?_ ?_))))))
        all_goals simp only [StOk, E.den, BiO.den, UnO.den, TeO.den, List.map_cons, List.map_nil, List.getD_cons_zero, List.getD_cons_succ, cntAt_def, bump_def, decide_eq_true_eq, decide_eq_false_iff_not, Bool.not_eq_true', beq_iff_eq, beq_eq_false_iff_ne, Bool.not_eq_false']
        · omega
        · omega
        · omega
        · omega
        · omega
        · omega
        · omega
        · rw [hmul]
          refine ⟨fun hne => ?_, fun he => ?_⟩
          · rw [if_neg hne] at e3
            rw [e3] at n3 ih
            have hfr := h3.fresh (by omega) (n3.2 _ (List.mem_singleton.2 rfl))
            have hbm := h3.bump (by omega) (if x.getD 3 0 < x.getD 2 0 then x.getD 3 0 else x.getD 2 0) (if x.getD 3 0 > x.getD 2 0 then x.getD 3 0 else x.getD 2 0)
            refine ⟨fun hlt => ?_, fun _ => ih _ _ _ _ h1' h2' hbm hs⟩
            rw [hfr] at hlt; omega
          · rw [if_pos he] at e3
            rw [e3, List.append_nil] at ih
            exact ih _ _ _ _ h1' h2' h3 hs
      refine br_t ?_ ?_
      · simp only [E.den, BiO.den, UnO.den, List.getD_cons_zero, List.getD_cons_succ, decide_eq_true_eq]; exact hstart
      have hmul : IntKind.wrap .i64 (x.getD 2 0 * x.getD 3 0) = x.getD 2 0 * x.getD 3 0 := by
        have : x.getD 2 0 * x.getD 3 0 ≤ 1000 * 1000 := Int.mul_le_mul r2' r3' r3 (by omega)
        have : 0 ≤ x.getD 2 0 * x.getD 3 0 := Int.mul_nonneg r2 r3
        exact w64 (by omega) (by omega)
      simp only [StOk, E.den, BiO.den, UnO.den, TeO.den, List.map_cons, List.map_nil, List.getD_cons_zero, List.getD_cons_succ, bump_def, Int.toNat_natCast, hget, show Int.toNat 0 = 0 from rfl, show Int.toNat 1 = 1 from rfl, show Int.toNat 2 = 2 from rfl, show Int.toNat 3 = 3 from rfl, show Int.toNat 4 = 4 from rfl, cntAt_def', hmul, decide_eq_true_eq, decide_eq_false_iff_not, Bool.not_eq_true', beq_iff_eq, beq_eq_false_iff_ne, Bool.not_eq_false']
      by_cases a0 : x.getD 2 0 = 0
      · by_cases b0 : x.getD 3 0 = 0
        · simp only [a0, b0, List.filter_cons, bne_self_eq_false, Bool.false_eq_true, if_false, List.filter_nil, List.map_nil] at e1 e2
          rw [e1, e2, List.append_nil, List.append_nil] at go2
          exact ⟨fun _ => ⟨fun _ => go2 _ _ h1 h2, fun q => (q b0).elim⟩, fun q => (q a0).elim⟩
        · simp only [a0, List.filter_cons, bne_self_eq_false, Bool.false_eq_true, if_false, List.filter_nil, bne_iff_ne.2 b0, if_true, List.map_cons, List.map_nil] at e1 e2
          rw [e1] at n1 go2
          rw [e2] at n2 go2
          have f1 := h1.fresh (by omega) (n1.2 _ (List.mem_singleton.2 rfl))
          have f2 := h2.fresh (by omega) (n2.2 _ (List.mem_singleton.2 rfl))
          have g := go2 _ _ (h1.bump (by omega) _ _) (h2.bump (by omega) _ _)
          refine ⟨fun _ => ⟨fun q => (b0 q).elim, fun _ => ⟨fun hlt => ?_, fun _ => ⟨fun q => ?_, fun _ => g⟩⟩⟩, fun q => (q a0).elim⟩
          · rw [f1] at hlt; omega
          · rw [a0, Int.zero_mul] at q; exact (q rfl).elim
      · by_cases b0 : x.getD 3 0 = 0
        · simp only [b0, List.filter_cons, bne_self_eq_false, Bool.false_eq_true, if_false, List.filter_nil, bne_iff_ne.2 a0, if_true, List.map_cons, List.map_nil] at e1 e2
          rw [e1] at n1 go2
          rw [e2] at n2 go2
          have f1 := h1.fresh (by omega) (n1.2 _ (List.mem_singleton.2 rfl))
          have g := go2 _ _ (h1.bump (by omega) _ _) (h2.bump (by omega) _ _)
          refine ⟨fun q => (a0 q).elim, fun _ => ⟨fun hlt => ?_, fun _ => ⟨fun q => ?_, fun _ => ⟨fun _ => g, fun q => (q b0).elim⟩⟩⟩⟩
          · rw [f1] at hlt; omega
          · rw [b0, Int.mul_zero] at q; exact (q rfl).elim
        · simp only [List.filter_cons, List.filter_nil, bne_iff_ne.2 a0, bne_iff_ne.2 b0, if_true, List.map_cons, List.map_nil] at e1 e2
          rw [e1] at n1 go2
          rw [e2] at n2 go2
          have hab : x.getD 2 0 ≠ x.getD 3 0 := by
            have := n1.1
            rw [List.nodup_cons] at this
            intro e
            exact this.1 (by rw [e]; exact List.mem_singleton.2 rfl)
          have f1 := h1.fresh (by omega) (n1.2 _ (List.mem_cons_self ..))
          have f2 := h2.fresh (by omega) (n2.2 _ (List.mem_cons_self ..))
          have k1 := h1.bump (by omega) (x.getD 0 0) (x.getD 2 0)
          have k2 := h2.bump (by omega) (x.getD 2 0) (x.getD 4 0)
          have f1' := k1.fresh (a := x.getD 0 0) (b := x.getD 3 0) (by rw [List.length_append]; simp only [List.length_cons, List.length_nil]; omega) (by
            rw [List.mem_append, not_or]
            refine ⟨n1.2 _ (List.mem_cons_of_mem _ (List.mem_singleton.2 rfl)), fun q => ?_⟩
            rw [List.mem_singleton] at q
            simp only [List.cons.injEq, and_true, true_and] at q
            exact hab q.symm)
          have f2' := k2.fresh (a := x.getD 3 0) (b := x.getD 4 0) (by rw [List.length_append]; simp only [List.length_cons, List.length_nil]; omega) (by
            rw [List.mem_append, not_or]
            refine ⟨n2.2 _ (List.mem_cons_of_mem _ (List.mem_singleton.2 rfl)), fun q => ?_⟩
            rw [List.mem_singleton] at q
            simp only [List.cons.injEq, and_true] at q
            exact hab q.symm)
          have g := go2 _ _ (by
            have := k1.bump (by rw [List.length_append]; simp only [List.length_cons, List.length_nil]; omega) (x.getD 0 0) (x.getD 3 0)
            rwa [List.append_assoc] at this) (by
            have := k2.bump (by rw [List.length_append]; simp only [List.length_cons, List.length_nil]; omega) (x.getD 3 0) (x.getD 4 0)
            rwa [List.append_assoc] at this)
          refine ⟨fun q => (a0 q).elim, fun _ => ⟨fun hlt => ?_, fun _ => ⟨fun _ => ⟨fun hlt => ?_, fun _ => ⟨fun q => (b0 q).elim, fun _ => ⟨fun hlt => ?_, fun _ => ⟨fun hlt => ?_, fun _ => g⟩⟩⟩⟩, fun q => ?_⟩⟩⟩
          · rw [f1] at hlt; omega
          · rw [f2] at hlt; omega
          · rw [f1'] at hlt; omega
          · rw [f2'] at hlt; omega
          · rcases Int.mul_eq_zero.1 q with q | q
            · exact (a0 q).elim
            · exact (b0 q).elim

theorem vFair : cFair.Valid (cx [] []) I25 := by
  refine reF (Ctr.valid_run (C := cxF) resp25 (by intro g h hh; cases hh) (fun c hc => by cases hc) (by decide) (by decide) (by kernel_rfl) rfl sFair [.i, .i, .i, .i, .i, .l] [.b] (by decide) ?_)
  intro ρ0 hρ hpre _
  obtain ⟨t, r, sn, cn, w, rows, rfl⟩ := six_m hρ
  have hp := hpre
  simp only [cFair, most, C25.rowOf, holds_cons_iff, E.den, BiO.den, UnO.den, List.getD_cons_zero, List.getD_cons_succ, decide_eq_true_eq] at hp
  obtain ⟨p1, p2, _⟩ := hp
  refine ⟨[{ b := true }], Runs.step rfl hpre ?_, rfl⟩
  exact rFair1 (rows := rows) (fairP_iff.1 p2) (by have : (rows.length : Int) ≤ 5000 := p1; omega) rows [] rfl [] [] [] [] Cnt.nil Cnt.nil Cnt.nil Cnt.nil
end Go.Proofs.Ytbknfmmoniammaa
