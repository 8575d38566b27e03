/- Chapter 26: HowellRoot. -/
import Derived.Test.YtohelfcinfpmaaaC26Z
namespace Go.Proofs.Ytohelfcinfpmaaa
open Go Go.Sx Go.Proofs.C26

theorem rootGo_ge (p : Nat) : ∀ f w, w ≤ rootGo p f w
  | 0, w => Nat.le_refl _
  | f + 1, w => by
    unfold rootGo
    split
    · exact Nat.le_refl _
    · exact Nat.le_trans (Nat.le_succ w) (rootGo_ge p f (w + 1))

theorem roots_below : ((List.range 401).all fun p => decide (p < 3) || !primeN p || decide (rootN p < p)) = true := by kernel_rfl

theorem rOrdL {p w k j : Nat} (h3 : 3 ≤ p) (h4 : p ≤ 400) (hw : w ≤ 21) (hkw : k ≤ w) (hbe : j = p - 1 ↔ k = w) {out : List U}
    (hnext : Runs I26 (tmsLRoot.map Tm.pre) ssLRoot 2 [{ i := (p : Int) }, { i := (w : Int) }, { i := 0 }, { i := ((k + 1 : Nat) : Int) }] out) :
    ∀ F x n : Nat, x < p → n + F ≤ 5000 → ordO p k F x n = some j → Runs I26 (tmsLRoot.map Tm.pre) ssLRoot 3 [{ i := (p : Int) }, { i := (w : Int) }, { i := 0 }, { i := (n : Int) }, { i := (x : Int) }, { i := (k : Int) }] out
  | 0, x, n, _, _, h => by simp [ordO] at h
  | F + 1, x, n, hx, hn, h => by
    refine Runs.step rfl ?_ ?_
    · simp only [tmsLRoot, List.map_cons, List.getD_cons_zero, List.getD_cons_succ, holds_cons_iff, E.den, BiO.den, UnO.den, decide_eq_true_eq, Bool.not_eq_true', beq_eq_false_iff_ne]
      refine ⟨?_, ?_, ?_, Holds.nil⟩ <;> omega
    · simp only [StOk, E.den, BiO.den, UnO.den, List.map_cons, List.map_nil, List.getD_cons_zero, List.getD_cons_succ, beq_iff_eq, beq_eq_false_iff_ne, Bool.not_eq_true', Bool.not_eq_false']
      simp only [ordO] at h
      refine ⟨fun hne => ?_, fun he => ⟨fun hk => ?_, fun hk => ?_⟩⟩
      · rw [if_neg (by omega)] at h
        rw [w64 (show _ ≤ (n : Int) + 1 by omega) (by omega), mod_step (by omega) (by omega)]
        exact rOrdL h3 h4 hw hkw hbe hnext F (x * k % p) (n + 1) (Nat.mod_lt _ (by omega)) (by omega) h
      · exfalso
        rw [if_pos (by omega)] at h
        simp only [Option.some.injEq] at h
        subst h
        rw [w64 (by omega) (by omega)] at hk
        apply hk
        rw [Bool.eq_iff_iff, beq_iff_eq, beq_iff_eq]
        omega
      · rw [w64 (by omega) (by omega)]
        exact hnext

theorem rRootEnd {p w k : Nat} (h2 : 2 ≤ w) (hwp : w < p) (hk : w < k) : Runs I26 (tmsLRoot.map Tm.pre) ssLRoot 2 [{ i := (p : Int) }, { i := (w : Int) }, { i := 0 }, { i := (k : Int) }] [{ b := true }] := by
  refine Runs.step rfl ?_ ?_
  · simp only [tmsLRoot, List.map_cons, List.getD_cons_zero, List.getD_cons_succ, holds_cons_iff, E.den, BiO.den, decide_eq_true_eq]
    exact ⟨by omega, Holds.nil⟩
  · simp only [StOk, E.den, BiO.den, List.map_cons, List.map_nil, List.getD_cons_zero, List.getD_cons_succ, decide_eq_true_eq, decide_eq_false_iff_not, beq_self_eq_true]
    refine ⟨fun h => by omega, fun _ => ⟨fun _ => ⟨fun _ => ?_, fun h => by omega⟩, fun h => by cases h⟩⟩
    rw [decide_eq_true (by omega : (w : Int) < p)]

theorem rRootL {p w : Nat} (h3 : 3 ≤ p) (h4 : p ≤ 400) (h2 : 2 ≤ w) (hwp : w < p) (hw : w ≤ 21) : ∀ f k : Nat, k + f = 22 → rootChk p f k = true → w = rootGo p f k →
    Runs I26 (tmsLRoot.map Tm.pre) ssLRoot 2 [{ i := (p : Int) }, { i := (w : Int) }, { i := 0 }, { i := (k : Int) }] [{ b := true }]
  | 0, k, _, h, _ => by simp [rootChk] at h
  | f + 1, k, hf, h, hwk => by
    have hge := rootGo_ge p (f + 1) k
    refine Runs.step rfl ?_ ?_
    · simp only [tmsLRoot, List.map_cons, List.getD_cons_zero, List.getD_cons_succ, holds_cons_iff, E.den, BiO.den, decide_eq_true_eq]
      exact ⟨by omega, Holds.nil⟩
    · simp only [StOk, E.den, BiO.den, UnO.den, List.map_cons, List.map_nil, List.getD_cons_zero, List.getD_cons_succ, decide_eq_true_eq, decide_eq_false_iff_not, beq_iff_eq, beq_eq_false_iff_ne, Bool.not_eq_true', holds_cons_iff, holds_nil_iff]
      refine ⟨fun _ => ⟨⟨by omega, trivial⟩, fun _ => ?_⟩, fun h => by omega⟩
      simp only [rootChk] at h
      rw [← Int.ofNat_tmod]
      split at h
      · cases h
      · rename_i j hj
        have hgo := ordO_go _ _ _ _ _ _ hj
        unfold rootGo at hwk
        unfold ordN at hwk
        rw [hgo] at hwk
        split at h
        · rename_i he
          rw [if_pos he] at hwk
          exact rOrdL h3 h4 hw (by omega) ⟨fun _ => hwk.symm, fun _ => he⟩ (rRootEnd h2 hwp (by omega)) p (k % p) 1 (Nat.mod_lt _ (by omega)) (by omega) hj
        · rename_i he
          rw [if_neg he] at hwk
          have hge' := rootGo_ge p f (k + 1)
          exact rOrdL h3 h4 hw (by omega) ⟨fun e => (he e).elim, fun e => by omega⟩ (rRootL h3 h4 h2 hwp hw f (k + 1) (by omega) h hwk) p (k % p) 1 (Nat.mod_lt _ (by omega)) (by omega) hj

theorem rDivL {n : Nat} (hn : n ≤ 400) {w e : Int} : ∀ (F i : Nat) (d : Bool), n ≤ i + F → 2 ≤ i → i ≤ 500 → ((d || !fullDiv n F i) = true → w = 0 ∧ e = 2) →
    ((d || !fullDiv n F i) = false → Runs I26 (tmsLRoot.map Tm.pre) ssLRoot 2 [{ i := (n : Int) }, { i := w }, { i := e }, { i := 2 }] [{ b := true }]) →
    Runs I26 (tmsLRoot.map Tm.pre) ssLRoot 1 [{ i := (n : Int) }, { i := w }, { i := e }, { b := d }, { i := (i : Int) }] [{ b := true }]
  | F, i, d, hi, h2, hi5, hT, hF => by
    refine Runs.step rfl ?_ ?_
    · simp only [tmsLRoot, List.map_cons, List.getD_cons_zero, List.getD_cons_succ, holds_cons_iff, E.den, BiO.den, decide_eq_true_eq]
      exact ⟨by omega, Holds.nil⟩
    · simp only [StOk, E.den, BiO.den, UnO.den, List.map_cons, List.map_nil, List.getD_cons_zero, List.getD_cons_succ, decide_eq_true_eq, decide_eq_false_iff_not, beq_iff_eq, beq_eq_false_iff_ne, Bool.not_eq_true', holds_cons_iff, holds_nil_iff]
      refine ⟨fun hlt => ?_, fun hge => ?_⟩
      · cases F with
        | zero => omega
        | succ F =>
          rw [w64 (show _ ≤ (i : Int) + 1 by omega) (by omega)]
          refine ⟨fun hd => ?_, fun hd => ⟨⟨by omega, trivial⟩, fun _ => ?_⟩⟩
          · refine rDivL hn F (i + 1) true (by omega) (by omega) (by omega) (fun _ => hT (by rw [hd]; rfl)) (fun h => by cases h)
          · have hm : ((n : Int).tmod (i : Int) == 0) = decide (n % i = 0) := by
              rw [← Int.ofNat_tmod, Bool.eq_iff_iff, beq_iff_eq, decide_eq_true_eq]; omega
            rw [hm]
            have e1 : (d || !fullDiv n (F + 1) i) = (decide (n % i = 0) || !fullDiv n F (i + 1)) := by
              rw [hd, Bool.false_or, fullDiv, if_pos (by omega)]
              by_cases h0 : n % i = 0
              · rw [if_pos h0, decide_eq_true h0]; rfl
              · rw [if_neg h0, decide_eq_false h0]; rfl
            rw [e1] at hT hF
            exact rDivL hn F (i + 1) _ (by omega) (by omega) (by omega) hT hF
      · have hfull : fullDiv n F i = true := by
          cases F with
          | zero => rfl
          | succ F => rw [fullDiv, if_neg (by omega)]
        rw [hfull] at hT hF
        simp only [Bool.not_true, Bool.or_false] at hT hF
        refine ⟨fun hd => ?_, fun hd => hF hd⟩
        obtain ⟨rfl, rfl⟩ := hT hd
        exact ⟨fun _ => rfl, fun h => (h rfl).elim⟩

theorem vRoot1 : cLRoot.Valid (cx [cRoot, cKAw] [6]) I26 := by
  refine Ctr.valid_run resp26 (glIn _ _) (allOf (.cons (re vRoot) (.cons (re vKAw) .nil))) (by decide) (by decide) (by kernel_rfl) rfl sLRoot [.i, .i] [.b] (by decide) ?_
  intro ρ0 hρ hpre _
  obtain ⟨a, b, rfl⟩ := two_ii hρ
  have hp := hpre
  simp only [cLRoot, cLMeets, le', List.cons_append, List.nil_append, holds_cons_iff, E.den, BiO.den, List.getD_cons_zero, List.getD_cons_succ, decide_eq_true_eq] at hp
  obtain ⟨a0, a1, b0, b1, _⟩ := hp
  refine ⟨[{ b := true }], Runs.step rfl hpre ?_, rfl⟩
  simp only [StOk, E.den, BiO.den, I26, List.map_cons, List.map_nil, List.getD_cons_zero, List.getD_cons_succ]
  have hm := tmod_small (show 0 ≤ a + 256 * b by omega) (show (0 : Int) < 401 by omega)
  generalize (a + 256 * b).tmod 401 = n at hm ⊢
  obtain ⟨m, rfl⟩ := Int.eq_ofNat_of_zero_le hm.1
  have hfp := List.all_eq_true.1 full_prime m (List.mem_range.2 (by omega))
  simp only [beq_iff_eq] at hfp
  refine rDivL (by omega) m 2 _ (by omega) (by omega) (by omega) (fun hD => ?_) (fun hD => ?_)
  · have : ¬ (3 ≤ (m : Int) ∧ (m : Int) ≤ 1000 ∧ primeN (m : Int).toNat = true) := by
      rintro ⟨h3, _, hy⟩
      have hy' : primeN m = true := by simpa using hy
      rw [if_neg (by omega), hy'] at hfp
      rw [hfp, decide_eq_false (by omega)] at hD
      cases hD
    exact rootV_not this
  · rw [Bool.or_eq_false_iff, decide_eq_false_iff_not] at hD
    have h3 : 3 ≤ m := by omega
    have hfd : fullDiv m m 2 = true := by simpa using hD.2
    rw [if_neg (by omega), hfd] at hfp
    have hy : primeN m = true := hfp.symm
    have e1 : rootV (m : Int) = (rootN m : Nat) := by unfold rootV; rw [if_pos ⟨by omega, by omega, by simpa using hy⟩]; rfl
    have e2 : rootE (m : Int) = 0 := by unfold rootE; rw [if_pos ⟨by omega, by omega, by simpa using hy⟩]
    rw [e1, e2]
    have hc := List.all_eq_true.1 roots_there m (List.mem_range.2 (by omega))
    rw [decide_eq_false (by omega : ¬ m < 3), hy] at hc
    have hb := List.all_eq_true.1 roots_below m (List.mem_range.2 (by omega))
    rw [decide_eq_false (by omega : ¬ m < 3), hy] at hb
    have hb' : rootN m < m := by simpa using hb
    have hc' : rootChk m 20 2 = true := by simpa using hc
    have hub : ∀ f k, rootChk m f k = true → rootGo m f k + 1 ≤ k + f := by
      intro f
      induction f with
      | zero => intro k h; simp [rootChk] at h
      | succ f ih =>
        intro k h
        unfold rootChk at h
        unfold rootGo
        split at h
        · cases h
        · rename_i j hj
          have hgo := ordO_go _ _ _ _ _ _ hj
          unfold ordN
          rw [hgo]
          split at h
          · rename_i he; rw [if_pos he]; omega
          · rename_i he; rw [if_neg he]; have := ih (k + 1) h; omega
    exact rRootL h3 (by omega) (rootGo_ge m 20 2) hb' (by have := hub 20 2 hc'; omega) 20 2 rfl hc' rfl

theorem vRootL : ({ cLRoot with outs := [], res := .bool (.bl true) } : Ctr).Valid (cx [cRoot, cKAw] [6]) I26 := vRoot1.said resp26 rfl rfl (by decide)
end Go.Proofs.Ytohelfcinfpmaaa
