/- Chapter 19: the numbers of match points, level by level; two of the laws. -/
import Derived.Test.YtmncmboeddlcmaaDoorC19U
namespace Go.Proofs.YtmncmboeddlcmaaDoor
open Go Go.Sx Go.Proofs.C19

theorem impP_mono {a b : Int} (h : a ≤ b) : ∀ k, k ≤ 24 → impP a k ≤ impP b k
  | 0, _ => by simp [impP]
  | k + 1, hk => by
    have ih := impP_mono h k (by omega)
    have hp := scale_pos k (by omega)
    rw [impP_step _ k (by omega), impP_step _ k (by omega)]
    split <;> split <;> (try split) <;> (try split) <;> omega
theorem impN_mono {a b : Int} (h : a ≤ b) : impN a ≤ impN b := impP_mono h 24 (by omega)

/-- the level of a difference -/
theorem level (d : Int) : ∀ m, m ≤ 24 → (∀ j, j < m → scaleL.getD j 0 ≤ d) ∨ ∃ n, n < m ∧ (∀ j, j < n → scaleL.getD j 0 ≤ d) ∧ d < scaleL.getD n 0
  | 0, _ => .inl fun j hj => by omega
  | m + 1, h => by
    rcases level d m (by omega) with h1 | ⟨n, h1, h2, h3⟩
    · by_cases h2 : scaleL.getD m 0 ≤ d
      · refine .inl fun j hj => ?_
        by_cases e : j = m
        · rw [e]; exact h2
        · exact h1 j (by omega)
      · exact .inr ⟨m, by omega, h1, by omega⟩
    · exact .inr ⟨n, by omega, h2, h3⟩

theorem impN_level {d : Int} (hd : 0 ≤ d) : ∃ n : Nat, n ≤ 24 ∧ impN d = n ∧ (∀ j, j < n → scaleL.getD j 0 ≤ d) ∧ (n < 24 → d < scaleL.getD n 0) := by
  rcases level d 24 (Nat.le_refl _) with h | ⟨n, h1, h2, h3⟩
  · exact ⟨24, Nat.le_refl _, impN_of hd (Nat.le_refl _) h (fun h => by omega), h, fun h => by omega⟩
  · exact ⟨n, by omega, impN_of hd (by omega) h2 (fun _ => h3), h2, fun _ => h3⟩

theorem scale_super : ∀ p, p < 24 → ∀ q, q < 24 → p + q + 1 < 24 → scaleL.getD p 0 + scaleL.getD q 0 ≤ scaleL.getD (p + q + 1) 0 + 1 := by decide

theorem impN_add {a b : Int} (ha : 0 ≤ a) (hb : 0 ≤ b) : impN (a + b) ≤ impN a + impN b + 1 := by
  obtain ⟨p, hp, ep, _, p2⟩ := impN_level ha
  obtain ⟨q, hq, eq, _, q2⟩ := impN_level hb
  obtain ⟨n, hn, en, n1, _⟩ := impN_level (show 0 ≤ a + b by omega)
  rw [ep, eq, en]
  by_cases h : n ≤ p + q + 1
  · omega
  · have h1 := p2 (by omega)
    have h2 := q2 (by omega)
    have h3 := n1 (p + q + 1) (by omega)
    have h4 := scale_super p (by omega) q (by omega) (by omega)
    omega

theorem impN_nonneg {d : Int} (hd : 0 ≤ d) : 0 ≤ impN d := by obtain ⟨n, _, e, _⟩ := impN_level hd; omega

theorem rem_in {a n : Int} (ha : 0 ≤ a) (hn : 0 < n) : 0 ≤ a.tmod n ∧ a.tmod n < n := by
  rw [Int.tmod_eq_emod_of_nonneg ha]
  exact ⟨Int.emod_nonneg _ (by omega), Int.emod_lt_of_pos _ hn⟩

theorem is_ne {I : Itp} {ρ : List U} {a b : E} (h : ((E.un .not (.bi .eq a b)).den I ρ).b = true) : ¬ (a.den I ρ).i = (b.den I ρ).i := by
  intro e
  have h' : (!((a.den I ρ).i == (b.den I ρ).i)) = true := h
  simp [e] at h'

theorem vTwo : cTwo.Valid (cx lawCs [6]) I19 := by
  refine Ctr.valid_goes (glIn _ _) lawAll (by decide) (by decide) (by kernel_rfl) rfl sTwo ?_
  intro ρ0 hpre
  have a0 : 0 ≤ (ρ0.getD 0 {}).i := holds_le (a := .lit 0) (b := .var 0) (hpre _ (by simp [cTwo, u32]))
  have b0 : 0 ≤ (ρ0.getD 1 {}).i := holds_le (a := .lit 0) (b := .var 1) (hpre _ (by simp [cTwo, u32]))
  generalize hx : ((ρ0.getD 0 {}).i.tmod 1000001) = x
  generalize hy : ((ρ0.getD 1 {}).i.tmod 1000001) = y
  obtain ⟨x0, x1⟩ : 0 ≤ x ∧ x < 1000001 := by rw [← hx]; exact rem_in a0 (by omega)
  obtain ⟨y0, y1⟩ : 0 ≤ y ∧ y < 1000001 := by rw [← hy]; exact rem_in b0 (by omega)
  have hX : (E.den I19 ρ0 (.bi .rem (.var 0) (.lit 1000001))).i = x := hx
  have hY : (E.den I19 ρ0 (.bi .rem (.var 1) (.lit 1000001))).i = y := hy
  have bx := impN_bound x
  have by' := impN_bound y
  have bxy := impN_bound (x + y)
  have nx := impN_nonneg x0
  have ny := impN_nonneg y0
  have m1 := impN_mono (show x ≤ x + y by omega)
  have m2 := impN_mono (show y ≤ x + y by omega)
  have m3 := impN_add x0 y0
  have m4 := impN_mono (show x - y ≤ x by omega)
  have m5 := impN_mono (show 0 - y ≤ x - y by omega)
  have e1 := impN_neg x
  have e2 := impN_neg (x + y)
  have e3 := impN_neg y
  refine Runs.step rfl hpre ⟨fun h => ?_, fun _ => ⟨fun h => ?_, fun _ => ⟨fun h => ?_, fun _ => ⟨fun h => ?_, fun _ => ⟨fun _ => ⟨fun _ => ⟨fun _ => ⟨fun _ => rfl, fun h => ?_⟩, fun h => ?_⟩, fun h => ?_⟩, fun h => ?_⟩⟩⟩⟩⟩
  · have h := holds_lt h
    simp only [E.den, BiO.den, I19] at h
    rw [hx, hy] at h
    split at h <;> omega
  · have h := holds_lt h
    simp only [E.den, BiO.den, UnO.den, I19] at h
    rw [hx, hy, w64 (x := impN x + impN y) (by omega) (by omega), w64 (by omega) (by omega)] at h
    omega
  · have h := holds_lt h
    simp only [E.den, BiO.den, UnO.den, I19] at h
    rw [hx] at h
    omega
  · have h := holds_lt h
    simp only [E.den, BiO.den, UnO.den, I19] at h
    rw [hx, hy] at h
    omega
  · have h := no_le h
    simp only [E.den, BiO.den, UnO.den, I19] at h
    rw [hx, hy, w64 (by omega) (by omega)] at h
    omega
  · have h := no_le h
    simp only [E.den, BiO.den, UnO.den, I19] at h
    rw [hx, hy] at h
    omega
  · have h := no_eq h
    simp only [E.den, BiO.den, UnO.den, I19] at h
    rw [hx, hy, show 0 - x - y = 0 - (x + y) from by omega] at h
    omega
  · have h := no_eq h
    simp only [E.den, BiO.den, UnO.den, I19] at h
    rw [hx, w64 (by omega) (by omega)] at h
    omega

theorem impN_zero : impN 0 = 0 := by decide
theorem impN_at : ∀ k, k < 24 → impN (scaleL.getD k 0) = (k : Int) + 1 := by decide
theorem impN_below : ∀ k, k < 24 → impN (scaleL.getD k 0 + -1) = (k : Int) := by decide

theorem vLeast : cLeast.Valid (cx lawCs [7]) I19 := by
  refine Ctr.valid_goes (glIn _ _) lawAll (by decide) (by decide) (by kernel_rfl) rfl sLeast ?_
  intro ρ0 hpre
  have a0 : 0 ≤ (ρ0.getD 0 {}).i := holds_le (a := .lit 0) (b := .var 0) (hpre _ (by simp [cLeast, u8]))
  have b0 : 0 ≤ (ρ0.getD 1 {}).i := holds_le (a := .lit 0) (b := .var 1) (hpre _ (by simp [cLeast, u32]))
  generalize hx : ((ρ0.getD 0 {}).i.tmod 25) = x
  generalize hy : ((ρ0.getD 1 {}).i.tmod 1000001) = y
  obtain ⟨x0, x1⟩ : 0 ≤ x ∧ x < 25 := by rw [← hx]; exact rem_in a0 (by omega)
  obtain ⟨y0, y1⟩ : 0 ≤ y ∧ y < 1000001 := by rw [← hy]; exact rem_in b0 (by omega)
  obtain ⟨m, hm, em, l1, l2⟩ := impN_level y0
  -- what follows the first number, whatever it is
  have tail : ∀ (st : ST), st = (.br (.bi .lt (.fn1 0 (.bi .rem (.var 1) (.lit 1000001))) (.lit 0)) (.bad 402) (.br (.bi .lt (.lit 24) (.fn1 0 (.bi .rem (.var 1) (.lit 1000001)))) (.bad 402)
      (.br (.bi .eq (.fn1 0 (.bi .rem (.var 1) (.lit 1000001))) (.lit 0)) (.br (.bi .lt (.bi .rem (.var 1) (.lit 1000001)) (.un (.tab scaleL) (.fn1 0 (.bi .rem (.var 1) (.lit 1000001))))) (.ret []) (.bad 402))
        (.need [(.bi .le (.lit 0) (.bi .add (.fn1 0 (.bi .rem (.var 1) (.lit 1000001))) (.lit (-1))))] (.br (.bi .lt (.bi .rem (.var 1) (.lit 1000001)) (.un (.tab scaleL) (.bi .add (.fn1 0 (.bi .rem (.var 1) (.lit 1000001))) (.lit (-1))))) (.bad 402)
          (.br (.bi .lt (.fn1 0 (.bi .rem (.var 1) (.lit 1000001))) (.lit 24)) (.br (.bi .lt (.bi .rem (.var 1) (.lit 1000001)) (.un (.tab scaleL) (.fn1 0 (.bi .rem (.var 1) (.lit 1000001))))) (.ret []) (.bad 402)) (.ret [])))))) : ST) →
      StOk I19 ρ0 (fun k ρ' => Runs I19 (tmsLeast.map Tm.pre) ssLeast k ρ' []) (fun ρ' => ρ' = []) st := by
    rintro st rfl
    refine ⟨fun h => ?_, fun _ => ⟨fun h => ?_, fun _ => ⟨fun h0 => ⟨fun _ => rfl, fun h => ?_⟩, fun h0 => ⟨?_, fun _ => ⟨fun h => ?_, fun _ => ⟨fun h2 => ⟨fun _ => rfl, fun h => ?_⟩, fun _ => rfl⟩⟩⟩⟩⟩⟩
    · have h := holds_lt h
      simp only [E.den, BiO.den, UnO.den, I19] at h
      rw [hy, em] at h
      omega
    · have h := holds_lt h
      simp only [E.den, BiO.den, UnO.den, I19] at h
      rw [hy, em] at h
      omega
    · have h0 := is_eq h0
      have h := no_lt h
      simp only [E.den, BiO.den, UnO.den, I19] at h h0
      rw [hy, em] at h h0
      have := l2 (by omega)
      rw [Int.toNat_natCast] at h
      omega
    · have h0 := no_eq h0
      simp only [E.den, BiO.den, UnO.den, I19] at h0
      rw [hy, em] at h0
      refine Holds.and (mk_le ?_) Holds.nil
      simp only [E.den, BiO.den, UnO.den, I19]
      rw [hy, em]
      omega
    · have h0 := no_eq h0
      have h := holds_lt h
      simp only [E.den, BiO.den, UnO.den, I19] at h h0
      rw [hy, em] at h h0
      rw [show ((m : Int) + -1).toNat = m - 1 from by omega] at h
      have := l1 (m - 1) (by omega)
      omega
    · have h2 := holds_lt h2
      have h := no_lt h
      simp only [E.den, BiO.den, UnO.den, I19] at h h2
      rw [hy, em] at h h2
      have := l2 (by omega)
      rw [Int.toNat_natCast] at h
      omega
  refine Runs.step rfl hpre ⟨fun h0 => ⟨fun h => ?_, fun _ => tail _ rfl⟩, fun h0 => ⟨?_, fun _ => ⟨fun h => ?_, fun _ => ⟨fun h => ?_, fun _ => tail _ rfl⟩⟩⟩⟩
  · have h0 := is_eq h0
    have h := is_ne h
    simp only [E.den, BiO.den, UnO.den, I19] at h h0
    rw [impN_zero] at h
    omega
  · have h0 := no_eq h0
    simp only [E.den, BiO.den, UnO.den, I19] at h0
    rw [hx] at h0
    refine Holds.and (mk_le ?_) Holds.nil
    simp only [E.den, BiO.den, UnO.den, I19]
    rw [hx]
    omega
  · have h0 := no_eq h0
    have h := is_ne h
    simp only [E.den, BiO.den, UnO.den, I19] at h h0
    rw [hx] at h h0
    have := impN_at (x + -1).toNat (by omega)
    omega
  · have h0 := no_eq h0
    have h := is_ne h
    simp only [E.den, BiO.den, UnO.den, I19] at h h0
    rw [hx] at h h0
    have := impN_below (x + -1).toNat (by omega)
    omega

end Go.Proofs.YtmncmboeddlcmaaDoor
