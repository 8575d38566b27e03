/- Chapter's proofs. -/
import Derived.Test.YtmncmboeddlcmaaDoorC19S
namespace Go.Proofs.YtmncmboeddlcmaaDoor
open Go Go.Sx Go.Proofs.C19

theorem w64 {x : Int} (h1 : -9223372036854775808 ≤ x) (h2 : x ≤ 9223372036854775807) : IntKind.wrap .i64 x = x := wrap_fit (by simpa [IntKind.min, IntKind.signed, IntKind.bits] using h1) (by simpa [IntKind.max, IntKind.signed, IntKind.bits] using h2)

/-! ### the scale and the match points -/
def impP (d : Int) (k : Nat) : Int := ((scaleL.take k).map fun s => if s ≤ d then (1 : Int) else if d ≤ 0 - s then -1 else 0).sum

theorem impP_step (d : Int) (k : Nat) (hk : k < 24) : impP d (k + 1) = impP d k + (if scaleL.getD k 0 ≤ d then (1 : Int) else if d ≤ 0 - scaleL.getD k 0 then -1 else 0) := by
  have hl : k < scaleL.length := hk
  unfold impP
  rw [List.take_succ_eq_append_getElem hl, List.map_append, List.sum_append]
  simp [List.getD_eq_getElem?_getD, List.getElem?_eq_getElem hl]

theorem impP_bound (d : Int) : ∀ k : Nat, k ≤ 24 → -(k : Int) ≤ impP d k ∧ impP d k ≤ k
  | 0, _ => by simp [impP]
  | k + 1, h => by
    have ih := impP_bound d k (by omega)
    rw [impP_step d k (by omega)]
    split
    · omega
    · split <;> omega

theorem vScale (I : Itp) : cScale.Valid (cx [] []) I := by
  refine Ctr.valid_goes (glIn _ _) (fun c hc => by cases hc) (by decide) (by decide) (by kernel_rfl) rfl sScale ?_
  intro ρ0 _
  exact ⟨1, rfl⟩

theorem rImp (u : U) : ∀ m k : Nat, k + m = 24 → Runs I19 (tmsImp.map Tm.pre) ssImp 1 [u, { i := impP u.i k }, { i := k }] [{ i := impN u.i }]
  | m, k, h => by
    have hb := impP_bound u.i k (by omega)
    refine Runs.step rfl ?_ ?_
    · simp only [tmsImp, List.map_cons, List.getD_cons_zero, List.getD_cons_succ, holds_cons_iff, E.den, BiO.den, decide_eq_true_eq]
      refine ⟨?_, ?_, ?_, ?_, Holds.nil⟩ <;> omega
    · simp only [StOk, E.den, BiO.den, UnO.den, List.map_cons, List.map_nil, List.getD_cons_zero, List.getD_cons_succ, decide_eq_true_eq, decide_eq_false_iff_not, Int.toNat_natCast]
      refine ⟨fun h1 => ?_, fun h1 => ?_⟩
      · have hs := impP_step u.i k (by omega)
        cases m with
        | zero => omega
        | succ m =>
          have ih := rImp u m (k + 1) (by omega)
          rw [hs] at ih
          refine ⟨fun h2 => ?_, fun h2 => ⟨fun h3 => ?_, fun h3 => ?_⟩⟩
          · rw [if_pos h2] at ih; exact ih
          · rw [if_neg h2, if_pos h3] at ih; exact ih
          · rw [if_neg h2, if_neg h3, Int.add_zero] at ih; exact ih
      · obtain rfl : k = 24 := by omega
        rfl

theorem vImp : cImp.Valid (cx [] [15]) I19 := by
  refine Ctr.valid_goes (glIn _ _) (fun c hc => by cases hc) (by decide) (by decide) (by kernel_rfl) rfl sImp ?_
  intro ρ0 _
  exact Runs.step rfl Holds.nil (rImp (ρ0.getD 0 {}) 24 0 rfl)

theorem scale_pos : ∀ j, j < 24 → 0 < scaleL.getD j 0 := by decide
theorem scale_le : ∀ j, j < 24 → scaleL.getD j 0 ≤ 4000 := by decide
theorem scale_mono : ∀ n, n < 24 → ∀ j, j < 24 → n ≤ j → scaleL.getD n 0 ≤ scaleL.getD j 0 := by decide

theorem impN_P (d : Int) : impN d = impP d 24 := rfl

theorem impP_low {d : Int} {n : Nat} (h1 : ∀ j, j < n → scaleL.getD j 0 ≤ d) : ∀ k, k ≤ n → k ≤ 24 → impP d k = k
  | 0, _, _ => by simp [impP]
  | k + 1, hk, hk' => by
    rw [impP_step d k (by omega), impP_low h1 k (by omega) (by omega), if_pos (h1 k (by omega))]
    omega

theorem impP_high {d : Int} {n : Nat} (hd : 0 ≤ d) (h1 : ∀ j, j < n → scaleL.getD j 0 ≤ d) (h2 : n < 24 → d < scaleL.getD n 0) (hn : n ≤ 24) : ∀ m, n + m ≤ 24 → impP d (n + m) = n
  | 0, _ => impP_low h1 n (Nat.le_refl _) hn
  | m + 1, h => by
    have h3 := h2 (by omega)
    have h4 := scale_mono n (by omega) (n + m) (by omega) (by omega)
    rw [show n + (m + 1) = n + m + 1 from by omega, impP_step d (n + m) (by omega), impP_high hd h1 h2 hn m (by omega), if_neg (by omega), if_neg (by omega)]
    omega

theorem impN_of {d : Int} {n : Nat} (hd : 0 ≤ d) (hn : n ≤ 24) (h1 : ∀ j, j < n → scaleL.getD j 0 ≤ d) (h2 : n < 24 → d < scaleL.getD n 0) : impN d = n := by
  rw [impN_P, show (24 : Nat) = n + (24 - n) from by omega]
  exact impP_high hd h1 h2 hn _ (by omega)

theorem impP_neg (d : Int) : ∀ k, k ≤ 24 → impP (0 - d) k = 0 - impP d k
  | 0, _ => by simp [impP]
  | k + 1, h => by
    have hp := scale_pos k (by omega)
    rw [impP_step _ k (by omega), impP_step _ k (by omega), impP_neg d k (by omega)]
    by_cases h1 : scaleL.getD k 0 ≤ d
    · rw [if_pos h1, if_neg (by omega), if_pos (by omega)]; omega
    · by_cases h2 : d ≤ 0 - scaleL.getD k 0
      · rw [if_neg h1, if_pos h2, if_pos (by omega)]; omega
      · rw [if_neg h1, if_neg h2, if_neg (by omega), if_neg (by omega)]; omega

theorem impP_far {d : Int} (hd : d < -4000) : ∀ k, k ≤ 24 → impP d k = 0 - (k : Int)
  | 0, _ => by simp [impP]
  | k + 1, h => by
    have hp := scale_pos k (by omega)
    have hl := scale_le k (by omega)
    rw [impP_step _ k (by omega), impP_far hd k (by omega), if_neg (by omega), if_pos (by omega)]
    omega

theorem impN_neg (d : Int) : impN (0 - d) = 0 - impN d := impP_neg d 24 (by omega)
theorem impN_bound (d : Int) : -24 ≤ impN d ∧ impN d ≤ 24 := by have := impP_bound d 24 (by omega); rw [impN_P]; omega

/-- the loop that goes up the scale; both templates of it have this summary -/
theorem rRefP (u : U) (hu : 0 ≤ u.i) : ∀ m k : Nat, k + m = 24 → (∀ j, j < k → scaleL.getD j 0 ≤ u.i) → Runs I19 (tmsRefP.map Tm.pre) ssRefP 1 [u, { i := k }] [{ i := impN u.i }]
  | m, k, h, hlow => by
    refine Runs.step rfl ?_ ?_
    · simp only [tmsRefP, List.map_cons, List.getD_cons_zero, List.getD_cons_succ, holds_cons_iff, E.den, BiO.den, decide_eq_true_eq]
      refine ⟨?_, ?_, ?_, Holds.nil⟩ <;> omega
    · simp only [StOk, E.den, BiO.den, UnO.den, List.map_cons, List.map_nil, List.getD_cons_zero, List.getD_cons_succ, decide_eq_true_eq, decide_eq_false_iff_not, Int.toNat_natCast]
      refine ⟨fun h1 => ⟨fun h2 => ?_, fun h2 => ?_⟩, fun h1 => ?_⟩
      · cases m with
        | zero => omega
        | succ m =>
          refine rRefP u hu m (k + 1) (by omega) fun j hj => ?_
          by_cases e : j = k
          · rw [e]; exact h2
          · exact hlow j (by omega)
      · rw [impN_of hu (by omega) hlow (fun _ => by omega)]
      · rw [impN_of hu (by omega) hlow (fun _ => by omega)]

theorem vRefP : cRefP.Valid (cx [cScale] [16]) I19 := by
  refine Ctr.valid_goes (glIn _ _) (fun c hc => ?_) (by decide) (by decide) (by kernel_rfl) rfl sRefP ?_
  · obtain rfl : c = cScale := by simpa [cx] using hc
    exact re (vScale _)
  intro ρ0 hpre
  have hu : 0 ≤ (ρ0.getD 0 {}).i := holds_le (hpre _ (List.mem_singleton.2 rfl))
  exact Runs.step rfl hpre (rRefP (ρ0.getD 0 {}) hu 24 0 rfl (fun j hj => by omega))

theorem rRef (u : U) (hu : 0 ≤ u.i) : ∀ m k : Nat, k + m = 24 → (∀ j, j < k → scaleL.getD j 0 ≤ u.i) → Runs I19 (tmsRef.map Tm.pre) ssRef 1 [u, { i := k }] [{ i := impN u.i }]
  | m, k, h, hlow => by
    refine Runs.step rfl ?_ ?_
    · simp only [tmsRef, List.map_cons, List.getD_cons_zero, List.getD_cons_succ, holds_cons_iff, E.den, BiO.den, decide_eq_true_eq]
      refine ⟨?_, ?_, ?_, Holds.nil⟩ <;> omega
    · simp only [StOk, E.den, BiO.den, UnO.den, List.map_cons, List.map_nil, List.getD_cons_zero, List.getD_cons_succ, decide_eq_true_eq, decide_eq_false_iff_not, Int.toNat_natCast]
      refine ⟨fun h1 => ⟨fun h2 => ?_, fun h2 => ?_⟩, fun h1 => ?_⟩
      · cases m with
        | zero => omega
        | succ m =>
          refine rRef u hu m (k + 1) (by omega) fun j hj => ?_
          by_cases e : j = k
          · rw [e]; exact h2
          · exact hlow j (by omega)
      · rw [impN_of hu (by omega) hlow (fun _ => by omega)]
      · rw [impN_of hu (by omega) hlow (fun _ => by omega)]

theorem vRef : cRef.Valid (cx [cScale, cRefP] [16]) I19 := by
  refine Ctr.valid_goes (glIn _ _) (fun c hc => ?_) (by decide) (by decide) (by kernel_rfl) rfl sRef ?_
  · have : c = cScale ∨ c = cRefP := by simpa [cx] using hc
    rcases this with rfl | rfl
    · exact re (vScale _)
    · exact re vRefP
  intro ρ0 hpre
  refine Runs.step rfl hpre ⟨fun h1 => ⟨fun h2 => ?_, fun h2 => ?_⟩, fun h1 => ?_⟩
  · have h2 : (ρ0.getD 0 {}).i < -4000 := holds_lt h2
    have e : impN (ρ0.getD 0 {}).i = -24 := by rw [impN_P, impP_far h2 24 (by omega)]; rfl
    show [({ i := IntKind.i64.wrap (0 - impN 4000) } : U)] = [{ i := impN (ρ0.getD 0 {}).i }]
    rw [e]
    rfl
  · show [({ i := IntKind.i64.wrap (0 - impN (0 - (ρ0.getD 0 {}).i)) } : U)] = [{ i := impN (ρ0.getD 0 {}).i }]
    have hb := impN_bound (ρ0.getD 0 {}).i
    rw [impN_neg, show (0 : Int) - (0 - impN (ρ0.getD 0 {}).i) = impN (ρ0.getD 0 {}).i from by omega, w64 (by omega) (by omega)]
  · have hu : ¬ (ρ0.getD 0 {}).i < 0 := no_lt h1
    exact rRef (ρ0.getD 0 {}) (by omega) 24 0 rfl (fun j hj => by omega)

/-! ### a board -/
theorem vSw : cSw.Valid (cx [cImp] []) I19 := by
  refine Ctr.valid_goes (glIn _ _) (fun c hc => ?_) (by decide) (by decide) (by kernel_rfl) rfl sSw ?_
  · obtain rfl : c = cImp := by simpa [cx] using hc
    exact re vImp
  intro ρ0 hpre
  generalize hu : ρ0.getD 0 {} = u
  generalize hv : ρ0.getD 1 {} = v
  have key : cSw.outs.map (E.den I19 ρ0) = [{ i := swV u.i v.i }, { i := swE u.i v.i }] := by
    subst hu hv; rfl
  rw [key]
  refine Runs.step rfl hpre ?_
  simp only [StOk, E.den, BiO.den, UnO.den, List.map_cons, List.map_nil, hu, hv, decide_eq_true_eq, decide_eq_false_iff_not]
  have bad : ¬ (-7600 ≤ u.i ∧ u.i ≤ 7600 ∧ -7600 ≤ v.i ∧ v.i ≤ 7600) → [({ i := 0 } : U), { i := 190 }] = [{ i := swV u.i v.i }, { i := swE u.i v.i }] := by
    intro h
    unfold swV swE
    rw [if_neg h, if_neg h]
  refine ⟨fun h1 => ⟨fun h2 => bad ?_, fun h2 => ?_⟩, fun h1 => bad ?_⟩
  · split at h1 <;> split at h2 <;> omega
  · have h : -7600 ≤ u.i ∧ u.i ≤ 7600 ∧ -7600 ≤ v.i ∧ v.i ≤ 7600 := by split at h1 <;> split at h2 <;> omega
    unfold swV swE
    rw [if_pos h, if_pos h]
    show [({ i := impN (IntKind.i64.wrap (u.i - v.i)) } : U), { i := 0 }] = _
    rw [w64 (by omega) (by omega)]
  · split at h1 <;> omega

theorem vRSw : cRSw.Valid (cx [cRef] []) I19 := by
  refine Ctr.valid_goes (glIn _ _) (fun c hc => ?_) (by decide) (by decide) (by kernel_rfl) rfl sRSw ?_
  · obtain rfl : c = cRef := by simpa [cx] using hc
    exact re vRef
  intro ρ0 hpre
  generalize hu : ρ0.getD 0 {} = u
  generalize hv : ρ0.getD 1 {} = v
  have key : cRSw.outs.map (E.den I19 ρ0) = [{ i := swV u.i v.i }, { i := swE u.i v.i }] := by
    subst hu hv; rfl
  rw [key]
  refine Runs.step rfl hpre ?_
  simp only [StOk, E.den, BiO.den, UnO.den, List.map_cons, List.map_nil, hu, hv, decide_eq_true_eq, decide_eq_false_iff_not]
  have bad : ¬ (-7600 ≤ u.i ∧ u.i ≤ 7600 ∧ -7600 ≤ v.i ∧ v.i ≤ 7600) → [({ i := 0 } : U), { i := 190 }] = [{ i := swV u.i v.i }, { i := swE u.i v.i }] := by
    intro h
    unfold swV swE
    rw [if_neg h, if_neg h]
  refine ⟨fun h1 => bad (by omega), fun h1 => ⟨fun h2 => bad (by omega), fun h2 => ⟨fun h3 => bad (by omega), fun h3 => ⟨fun h4 => bad (by omega), fun h4 => ?_⟩⟩⟩⟩
  have h : -7600 ≤ u.i ∧ u.i ≤ 7600 ∧ -7600 ≤ v.i ∧ v.i ≤ 7600 := by omega
  unfold swV swE
  rw [if_pos h, if_pos h]
  rfl

end Go.Proofs.YtmncmboeddlcmaaDoor
