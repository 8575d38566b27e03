/- Chapter 24: the functions of the chapter. -/
import Derived.Test.YtnpadkajapialaaDoorC24P
import Derived.Test.YtnpadkajapialaaDoorC24Ts
namespace Go.Proofs.YtnpadkajapialaaDoor
open Go Go.Sx Go.Proofs.C24

theorem eqR_iff {w : Nat} {a b : List (List Int)} : eqR w a b = true ↔ a.length = b.length ∧ ∀ i, i < a.length → ∀ c, c < w → (a.getD i []).getD c 0 = (b.getD i []).getD c 0 := by
  unfold eqR
  simp only [Bool.and_eq_true, List.all_eq_true, List.mem_range, beq_iff_eq]
theorem eqR_refl (w : Nat) (a : List (List Int)) : eqR w a a = true := eqR_iff.2 ⟨rfl, fun _ _ _ _ => rfl⟩
theorem rEqI {a b : List (List Int)} (hl : a.length ≤ 100000) (hlen : a.length = b.length) : ∀ f i : Nat, i + f = a.length → (∀ j, j < i → ∀ c, c < 1 → (a.getD j []).getD c 0 = (b.getD j []).getD c 0) →
    Runs I24 (tmsEqI.map Tm.pre) ssEqI 1 [{ l := a }, { l := b }, { i := (i : Int) }] [{ b := eqR 1 a b }]
  | f, i, hi, hj => by
    refine Runs.step rfl ?_ ?_
    · simp only [tmsEqI, List.map_cons, List.getD_cons_zero, List.getD_cons_succ, holds_cons_iff, E.den, BiO.den, UnO.den, decide_eq_true_eq, beq_iff_eq]
      (repeat' refine And.intro ?_ ?_) <;> first | exact Holds.nil | omega
    · simp only [StOk, E.den, BiO.den, UnO.den, TeO.den, List.map_cons, List.map_nil, List.getD_cons_zero, List.getD_cons_succ, decide_eq_true_eq, decide_eq_false_iff_not, Int.toNat_natCast, Int.toNat_zero, Bool.not_eq_true', Bool.not_eq_false', beq_iff_eq, beq_eq_false_iff_ne]
      refine ⟨fun hlt => ⟨fun q => ?_, fun q => ?_⟩, fun hge => ?_⟩
      · have : eqR 1 a b ≠ true := fun h => q ((eqR_iff.1 h).2 i (by omega) 0 (by omega))
        rw [Bool.eq_false_iff.2 this]
      · cases f with
        | zero => omega
        | succ f =>
          refine rEqI hl hlen f (i + 1) (by omega) fun j hj' c hc => ?_
          rcases Nat.lt_or_eq_of_le (Nat.le_of_lt_succ hj') with h | rfl
          · exact hj j h c hc
          · match c, hc with
            | 0, _ => exact q
      · have : eqR 1 a b = true := eqR_iff.2 ⟨hlen, fun j hj' c hc => hj j (by omega) c hc⟩
        rw [this]
theorem vEqI : cEqI.Valid (cx [] []) I24 := by
  refine re (Ctr.valid_run (C := cx [] [cEqI.fn]) resp24 (glIn _ _) (fun c hc => by cases hc) (by decide) (by decide) (by kernel_rfl) rfl sEqI [.l, .l] [.b] (by decide) ?_)
  intro ρ0 hρ hpre _
  obtain ⟨a, b, rfl⟩ := two_ll hρ
  have hp := hpre
  simp only [cEqI, many, holds_cons_iff, E.den, BiO.den, UnO.den, List.getD_cons_zero, decide_eq_true_eq] at hp
  obtain ⟨h1, _⟩ := hp
  refine ⟨[{ b := eqR 1 a b }], Runs.step rfl hpre ?_, rfl⟩
  simp only [StOk, E.den, BiO.den, UnO.den, List.map_cons, List.map_nil, List.getD_cons_zero, List.getD_cons_succ, Bool.not_eq_true', Bool.not_eq_false', beq_iff_eq, beq_eq_false_iff_ne]
  refine ⟨fun q => ?_, fun q => ?_⟩
  · have : eqR 1 a b ≠ true := fun h => by have := (eqR_iff.1 h).1; omega
    rw [Bool.eq_false_iff.2 this]
  · exact rEqI (by omega) (by omega) a.length 0 (by omega) (fun j h => by omega)
theorem rEqF {a b : List (List Int)} (hl : a.length ≤ 100000) (hlen : a.length = b.length) : ∀ f i : Nat, i + f = a.length → (∀ j, j < i → ∀ c, c < 2 → (a.getD j []).getD c 0 = (b.getD j []).getD c 0) →
    Runs I24 (tmsEqF.map Tm.pre) ssEqF 1 [{ l := a }, { l := b }, { i := (i : Int) }] [{ b := eqR 2 a b }]
  | f, i, hi, hj => by
    refine Runs.step rfl ?_ ?_
    · simp only [tmsEqF, List.map_cons, List.getD_cons_zero, List.getD_cons_succ, holds_cons_iff, E.den, BiO.den, UnO.den, decide_eq_true_eq, beq_iff_eq]
      (repeat' refine And.intro ?_ ?_) <;> first | exact Holds.nil | omega
    · simp only [StOk, E.den, BiO.den, UnO.den, TeO.den, List.map_cons, List.map_nil, List.getD_cons_zero, List.getD_cons_succ, decide_eq_true_eq, decide_eq_false_iff_not, Int.toNat_natCast, Int.toNat_zero, show Int.toNat 1 = 1 from rfl, Bool.not_eq_true', Bool.not_eq_false', Bool.and_eq_true, Bool.and_eq_false_iff, beq_iff_eq, beq_eq_false_iff_ne]
      refine ⟨fun hlt => ⟨fun q => ?_, fun q => ?_⟩, fun hge => ?_⟩
      · have : eqR 2 a b ≠ true := fun h => by
          have e0 := (eqR_iff.1 h).2 i (by omega) 0 (by omega)
          have e1 := (eqR_iff.1 h).2 i (by omega) 1 (by omega)
          omega
        rw [Bool.eq_false_iff.2 this]
      · cases f with
        | zero => omega
        | succ f =>
          refine rEqF hl hlen f (i + 1) (by omega) fun j hj' c hc => ?_
          rcases Nat.lt_or_eq_of_le (Nat.le_of_lt_succ hj') with h | rfl
          · exact hj j h c hc
          · match c, hc with
            | 0, _ => exact q.1
            | 1, _ => exact q.2
      · have : eqR 2 a b = true := eqR_iff.2 ⟨hlen, fun j hj' c hc => hj j (by omega) c hc⟩
        rw [this]
theorem vEqF : cEqF.Valid (cx [] []) I24 := by
  refine re (Ctr.valid_run (C := cx [] [cEqF.fn]) resp24 (glIn _ _) (fun c hc => by cases hc) (by decide) (by decide) (by kernel_rfl) rfl sEqF [.l, .l] [.b] (by decide) ?_)
  intro ρ0 hρ hpre _
  obtain ⟨a, b, rfl⟩ := two_ll hρ
  have hp := hpre
  simp only [cEqF, many, holds_cons_iff, E.den, BiO.den, UnO.den, List.getD_cons_zero, decide_eq_true_eq] at hp
  obtain ⟨h1, _⟩ := hp
  refine ⟨[{ b := eqR 2 a b }], Runs.step rfl hpre ?_, rfl⟩
  simp only [StOk, E.den, BiO.den, UnO.den, List.map_cons, List.map_nil, List.getD_cons_zero, List.getD_cons_succ, Bool.not_eq_true', Bool.not_eq_false', beq_iff_eq, beq_eq_false_iff_ne]
  refine ⟨fun q => ?_, fun q => ?_⟩
  · have : eqR 2 a b ≠ true := fun h => by have := (eqR_iff.1 h).1; omega
    rw [Bool.eq_false_iff.2 this]
  · exact rEqF (by omega) (by omega) a.length 0 (by omega) (fun j h => by omega)

/-! ### lists of numbers -/
theorem nums_get (A : List (List Int)) (i : Nat) : (nums A).getD i 0 = (A.getD i []).getD 0 0 := by
  unfold nums
  simp only [List.getD_eq_getElem?_getD, List.getElem?_map]
  cases A[i]? <;> rfl
theorem nums_len (A : List (List Int)) : (nums A).length = A.length := by simp [nums]
theorem getD_at {A B : List (List Int)} {x : List Int} : (A ++ x :: B).getD A.length [] = x := by
  rw [List.getD_eq_getElem?_getD, List.getElem?_append_right (Nat.le_refl _), Nat.sub_self]; rfl
theorem take_snocI {l : List Int} {i : Nat} (h : i < l.length) : l.take (i + 1) = l.take i ++ [l.getD i 0] := by
  rw [List.take_add_one, List.getElem?_eq_getElem h, List.getD_eq_getElem?_getD, List.getElem?_eq_getElem h]; rfl
theorem get_in {l : List Int} {i : Nat} (h : i < l.length) : l.getD i 0 ∈ l := by
  rw [List.getD_eq_getElem?_getD, List.getElem?_eq_getElem h]; exact List.getElem_mem _
theorem get_ones (L : List Int) (i : Nat) : ((ones L).getD i []).getD 0 0 = L.getD i 0 := by
  unfold ones
  simp only [List.getD_eq_getElem?_getD, List.getElem?_map]
  cases L[i]? <;> rfl
theorem ones_len (L : List Int) : (ones L).length = L.length := by simp [ones]
theorem nums_ones (L : List Int) : nums (ones L) = L := by
  unfold nums ones
  rw [List.map_map]
  exact (List.map_congr_left fun x _ => rfl).trans (List.map_id' L)
theorem ones_snoc (L : List Int) (x : Int) : ones (L ++ [x]) = ones L ++ [[x]] := by simp [ones]

theorem errI_0 {l : List Int} (h : errI l = 0) : l.length ≤ 24 ∧ ∀ x ∈ l, -7600 ≤ x ∧ x ≤ 7600 := by
  unfold errI at h
  split at h
  · cases h
  · split at h
    · rename_i h1 h2
      exact ⟨by omega, fun x hx => of_decide_eq_true (List.all_eq_true.1 h2 x hx)⟩
    · cases h
theorem rRight {l : List (List Int)} (h24 : l.length ≤ 24) : ∀ f i : Nat, i + f = l.length → (∀ x ∈ (nums l).take i, -7600 ≤ x ∧ x ≤ 7600) →
    Runs I24 (tmsRight.map Tm.pre) ssRight 1 [{ l := l }, { i := (i : Int) }] [{ i := errI (nums l) }]
  | f, i, hf, hx => by
    have hnl := nums_len l
    refine Runs.step rfl ?_ ?_
    · simp only [tmsRight, List.map_cons, List.getD_cons_zero, List.getD_cons_succ, holds_cons_iff, E.den, BiO.den, UnO.den, decide_eq_true_eq]
      exact ⟨by omega, by omega, by omega, Holds.nil⟩
    · simp only [StOk, E.den, BiO.den, UnO.den, TeO.den, List.map_cons, List.map_nil, List.getD_cons_zero, List.getD_cons_succ, Int.toNat_natCast, Int.toNat_zero, decide_eq_true_eq, decide_eq_false_iff_not, ← nums_get]
      refine ⟨fun hlt => ?_, fun hge => ?_⟩
      · have hm := get_in (l := nums l) (i := i) (by omega)
        refine ⟨fun q => ?_, fun q => ⟨fun q' => ?_, fun q' => ?_⟩⟩
        · rw [errI_bad (by omega) hm (Or.inl q)]
        · rw [errI_bad (by omega) hm (Or.inr q')]
        · cases f with
          | zero => omega
          | succ f =>
            refine rRight h24 f (i + 1) (by omega) fun x hx' => ?_
            rw [take_snocI (by omega)] at hx'
            rcases List.mem_append.1 hx' with h | h
            · exact hx x h
            · rw [List.mem_singleton.1 h]; omega
      · rw [List.take_of_length_le (by omega)] at hx
        rw [errI_ok (by omega) hx]
theorem vRight : cRight.Valid (cx [] []) I24 := by
  refine re (Ctr.valid_run (C := cx [] [61]) resp24 (glIn _ _) (fun c hc => by cases hc) (by decide) (by decide) (by kernel_rfl) rfl sRight [.l] [.i] (by decide) ?_)
  intro ρ0 hρ hpre _
  obtain ⟨l, rfl⟩ := one_l hρ
  refine ⟨[{ i := errI (nums l) }], Runs.step rfl hpre ?_, rfl⟩
  simp only [StOk, E.den, BiO.den, UnO.den, List.map_cons, List.map_nil, List.getD_cons_zero, decide_eq_true_eq, decide_eq_false_iff_not]
  refine ⟨fun h => by rw [errI_many (by rw [nums_len]; omega)], fun h => ?_⟩
  exact rRight (by omega) l.length 0 (by omega) (fun x hx => by simp at hx)

/-! ### Cross -/
theorem sum_snoc (l : List Int) (x : Int) : (l ++ [x]).sum = l.sum + x := by rw [List.sum_append]; simp
theorem crossS_snoc (l : List Int) (x s : Int) : crossS (l ++ [x]) s = crossS l s + impN (s - x) := by
  unfold crossS; rw [List.map_append, List.map_cons, List.map_nil, sum_snoc]
theorem crossS_in (s : Int) : ∀ l : List Int, -(24 * (l.length : Int)) ≤ crossS l s ∧ crossS l s ≤ 24 * l.length
  | [] => by simp [crossS]
  | x :: l => by
    have h1 := crossS_in s l
    have h2 := impN_in (s - x)
    unfold crossS at h1 ⊢
    rw [List.map_cons, List.sum_cons, List.length_cons]
    omega
def fr2 (a b : Int) : List Int := [frN a b, frD a b]
def den1 (n : Nat) : Int := if 1 > (n : Int) - 1 then 1 else (n : Int) - 1
def crossP (l : List Int) (i : Nat) : List (List Int) := (l.take i).map fun s => fr2 (crossS l s) (den1 l.length)
theorem crossP_all {l : List Int} (h : errI l = 0) : crossP l l.length = crossI l := by
  unfold crossP crossI
  rw [List.take_length, if_neg (fun q => q h)]
  rfl
theorem rCross {l : List (List Int)} (hE : errI (nums l) = 0) : ∀ f i : Nat, i + f = l.length →
    Runs I24 (tmsCross.map Tm.pre) ssCross 1 [{ l := l }, { l := crossP (nums l) i }, { i := (i : Int) }] [{ l := crossI (nums l) }, { i := errI (nums l) }]
  | f, i, hf => by
    have hnl := nums_len l
    obtain ⟨h24, hin⟩ := errI_0 hE
    have hcl : (crossP (nums l) i).length = i := by unfold crossP; rw [List.length_map, List.length_take]; omega
    refine Runs.step rfl ?_ ?_
    · simp only [tmsCross, List.map_cons, List.getD_cons_zero, List.getD_cons_succ, holds_cons_iff, E.den, BiO.den, UnO.den, I24, decide_eq_true_eq, beq_iff_eq]
      exact ⟨by omega, by omega, hE, by omega, Holds.nil⟩
    · simp only [StOk, E.den, BiO.den, UnO.den, TeO.den, List.map_cons, List.map_nil, List.getD_cons_zero, List.getD_cons_succ, Int.toNat_natCast, Int.toNat_zero, decide_eq_true_eq, decide_eq_false_iff_not, ← nums_get]
      refine ⟨fun hlt => ?_, fun hge => ?_⟩
      · obtain ⟨s, hs⟩ : ∃ s, (nums l).getD i 0 = s := ⟨_, rfl⟩
        have hsi := hin s (by rw [← hs]; exact get_in (by omega))
        rw [hs]
        have inner : ∀ g j : Nat, j + g = l.length → Runs I24 (tmsCross.map Tm.pre) ssCross 2 [{ l := l }, { i := crossS ((nums l).take j) s }, { i := (j : Int) }, { i := s }, { l := crossP (nums l) i }, { i := (i : Int) }] [{ l := crossI (nums l) }, { i := errI (nums l) }] := by
          intro g
          induction g with
          | zero =>
            intro j hj
            have hcs := crossS_in s ((nums l).take j)
            rw [List.length_take] at hcs
            refine Runs.step rfl ?_ ?_
            · simp only [tmsCross, List.map_cons, List.getD_cons_zero, List.getD_cons_succ, holds_cons_iff, E.den, BiO.den, UnO.den, I24, decide_eq_true_eq, beq_iff_eq]
              exact ⟨by omega, by omega, by omega, by omega, hE, by omega, Holds.nil⟩
            refine br_f ?_ ?_
            · simp only [E.den, BiO.den, UnO.den, List.getD_cons_zero, List.getD_cons_succ, decide_eq_false_iff_not]; omega
            simp only [StOk, E.den, BiO.den, UnO.den, I24, List.map_cons, List.map_nil, List.getD_cons_zero, List.getD_cons_succ, holds_cons_iff, holds_nil_iff, decide_eq_true_eq]
            refine ⟨⟨by omega, by omega, trivial⟩, fun _ => ?_⟩
            cases f with
            | zero => omega
            | succ f =>
              have := rCross hE f (i + 1) (by omega)
              have e : crossP (nums l) (i + 1) = crossP (nums l) i ++ [fr2 (crossS (nums l) s) (den1 (nums l).length)] := by
                unfold crossP
                rw [take_snocI (by omega), List.map_append, hs]; rfl
              rw [e, Int.natCast_add, Int.natCast_one] at this
              rw [List.take_of_length_le (show (nums l).length ≤ j by omega)]
              have e2 : den1 (nums l).length = if 1 > (l.length : Int) + -1 then (1 : Int) else (l.length : Int) + -1 := by rw [hnl]; rfl
              rw [e2] at this
              exact this
          | succ g ih =>
            intro j hj
            have ih' := ih (j + 1) (by omega)
            obtain ⟨x, hx⟩ : ∃ x, (nums l).getD j 0 = x := ⟨_, rfl⟩
            have hxi := hin x (by rw [← hx]; exact get_in (by omega))
            have hcs := crossS_in s ((nums l).take j)
            rw [List.length_take] at hcs
            have hi := impN_in (s - x)
            rw [take_snocI (by omega), hx, crossS_snoc, Int.natCast_add, Int.natCast_one] at ih'
            refine Runs.step rfl ?_ ?_
            · simp only [tmsCross, List.map_cons, List.getD_cons_zero, List.getD_cons_succ, holds_cons_iff, E.den, BiO.den, UnO.den, I24, decide_eq_true_eq, beq_iff_eq]
              exact ⟨by omega, by omega, by omega, by omega, hE, by omega, Holds.nil⟩
            refine br_t ?_ ?_
            · simp only [E.den, BiO.den, UnO.den, List.getD_cons_zero, List.getD_cons_succ, decide_eq_true_eq]; omega
            simp only [StOk, E.den, BiO.den, UnO.den, TeO.den, I24, List.map_cons, List.map_nil, List.getD_cons_zero, List.getD_cons_succ, Int.toNat_natCast, Int.toNat_zero, ← nums_get, hx]
            rw [w64 (x := s - x) (by omega) (by omega), w64 (x := crossS ((nums l).take j) s + impN (s - x)) (by omega) (by omega)]
            exact ih'
        exact inner l.length 0 (by omega)
      · have hi : i = (nums l).length := by omega
        rw [hi, crossP_all hE, hE]
theorem vCross : cCross.Valid (cx [] []) I24 := by
  refine re (Ctr.valid_run (C := cx [cRight, cImp, cFMake] [29, 30]) resp24 (glIn _ _) (allOf (.cons vRight (.cons vImp (.cons vFMake .nil)))) (by decide) (by decide) (by kernel_rfl) rfl sCross [.l] [.l, .i] (by decide) ?_)
  intro ρ0 hρ hpre _
  obtain ⟨l, rfl⟩ := one_l hρ
  refine ⟨[{ l := crossI (nums l) }, { i := errI (nums l) }], Runs.step rfl hpre ?_, rfl⟩
  simp only [StOk, E.den, BiO.den, UnO.den, I24, List.map_cons, List.map_nil, List.getD_cons_zero, Bool.not_eq_true', Bool.not_eq_false', beq_iff_eq, beq_eq_false_iff_ne]
  refine ⟨fun h => by rw [cross_bad rfl h], fun h => ?_⟩
  exact rCross h l.length 0 (by omega)

/-! ### Plain -/
theorem sum_in : ∀ l : List Int, (∀ x ∈ l, -7600 ≤ x ∧ x ≤ 7600) → -(7600 * (l.length : Int)) ≤ l.sum ∧ l.sum ≤ 7600 * l.length
  | [], _ => by simp
  | x :: l, h => by
    have h1 := sum_in l (fun y hy => h y (List.mem_cons_of_mem _ hy))
    have h2 := h x (List.mem_cons_self ..)
    rw [List.sum_cons, List.length_cons]
    omega
def plainP (l : List Int) (i : Nat) : List (List Int) := (l.take i).map fun s => fr2 (s * l.length - l.sum) l.length
theorem plainP_all {l : List Int} (h : errI l = 0) : plainP l l.length = plainI l := by
  unfold plainP plainI
  rw [List.take_length, if_neg (fun q => q h)]
  rfl
theorem rPlain2 {l : List (List Int)} (hE : errI (nums l) = 0) {b : Bool} : ∀ f i : Nat, i + f = l.length →
    Runs I24 (tmsPlain.map Tm.pre) ssPlain 2 [{ l := l }, { l := plainP (nums l) i }, { i := (i : Int) }, { i := (nums l).sum }, { i := (l.length : Int) }, { b := b }] [{ l := plainI (nums l) }, { i := errI (nums l) }]
  | f, i, hf => by
    have hnl := nums_len l
    obtain ⟨h24, hin⟩ := errI_0 hE
    have hcl : (plainP (nums l) i).length = i := by unfold plainP; rw [List.length_map, List.length_take]; omega
    refine Runs.step rfl ?_ ?_
    · simp only [tmsPlain, List.map_cons, List.getD_cons_zero, List.getD_cons_succ, holds_cons_iff, E.den, BiO.den, UnO.den, I24, decide_eq_true_eq, beq_iff_eq]
      exact ⟨by omega, by omega, trivial, hE, by omega, Holds.nil⟩
    · simp only [StOk, E.den, BiO.den, UnO.den, TeO.den, I24, List.map_cons, List.map_nil, List.getD_cons_zero, List.getD_cons_succ, Int.toNat_natCast, Int.toNat_zero, decide_eq_true_eq, decide_eq_false_iff_not, ← nums_get, holds_cons_iff, holds_nil_iff]
      refine ⟨fun hlt => ?_, fun hge => ?_⟩
      · obtain ⟨s, hs⟩ : ∃ s, (nums l).getD i 0 = s := ⟨_, rfl⟩
        have hsi := hin s (by rw [← hs]; exact get_in (by omega))
        rw [hs]
        have hsum := sum_in (nums l) hin
        have hsl : -(7600 * 24) ≤ s * (l.length : Int) ∧ s * (l.length : Int) ≤ 7600 * 24 := by
          constructor
          · have : -7600 * (l.length : Int) ≤ s * l.length := Int.mul_le_mul_of_nonneg_right hsi.1 (by omega)
            omega
          · have : s * (l.length : Int) ≤ 7600 * l.length := Int.mul_le_mul_of_nonneg_right hsi.2 (by omega)
            omega
        rw [w64 (x := s * (l.length : Int)) (by omega) (by omega), w64 (x := s * (l.length : Int) - (nums l).sum) (by omega) (by omega)]
        refine ⟨⟨by omega, by omega, trivial⟩, fun _ => ?_⟩
        cases f with
        | zero => omega
        | succ f =>
          have := rPlain2 (b := b) hE f (i + 1) (by omega)
          have e : plainP (nums l) (i + 1) = plainP (nums l) i ++ [fr2 (s * (l.length : Int) - (nums l).sum) l.length] := by
            unfold plainP
            rw [take_snocI (by omega), List.map_append, hs, hnl]; rfl
          rw [e, Int.natCast_add, Int.natCast_one] at this
          exact this
      · have hi : i = (nums l).length := by omega
        rw [hi, plainP_all hE, hE]
theorem rPlain1 {l : List (List Int)} (hE : errI (nums l) = 0) : ∀ f i : Nat, i + f = l.length →
    Runs I24 (tmsPlain.map Tm.pre) ssPlain 1 [{ l := l }, { i := ((nums l).take i).sum }, { i := (i : Int) }] [{ l := plainI (nums l) }, { i := errI (nums l) }]
  | f, i, hf => by
    have hnl := nums_len l
    obtain ⟨h24, hin⟩ := errI_0 hE
    refine Runs.step rfl ?_ ?_
    · simp only [tmsPlain, List.map_cons, List.getD_cons_zero, List.getD_cons_succ, holds_cons_iff, E.den, BiO.den, UnO.den, I24, decide_eq_true_eq, beq_iff_eq]
      exact ⟨by omega, by omega, hE, by omega, Holds.nil⟩
    · simp only [StOk, E.den, BiO.den, UnO.den, TeO.den, I24, List.map_cons, List.map_nil, List.getD_cons_zero, List.getD_cons_succ, Int.toNat_natCast, Int.toNat_zero, decide_eq_true_eq, decide_eq_false_iff_not, ← nums_get]
      refine ⟨fun hlt => ?_, fun hge => ?_⟩
      · have hsi := hin ((nums l).getD i 0) (get_in (by omega))
        have hsum := sum_in ((nums l).take i) (fun x hx => hin x (List.mem_of_mem_take hx))
        rw [List.length_take] at hsum
        rw [w64 (by omega) (by omega)]
        cases f with
        | zero => omega
        | succ f =>
          have := rPlain1 hE f (i + 1) (by omega)
          rw [take_snocI (by omega), sum_snoc, Int.natCast_add, Int.natCast_one] at this
          exact this
      · have hi : i = l.length := by omega
        subst hi
        rw [List.take_of_length_le (by omega)]
        exact rPlain2 hE l.length 0 (by omega)
theorem vPlain : cPlain.Valid (cx [] []) I24 := by
  refine re (Ctr.valid_run (C := cx [cRight, cFMake] [14, 29]) resp24 (glIn _ _) (allOf (.cons vRight (.cons vFMake .nil))) (by decide) (by decide) (by kernel_rfl) rfl sPlain [.l] [.l, .i] (by decide) ?_)
  intro ρ0 hρ hpre _
  obtain ⟨l, rfl⟩ := one_l hρ
  refine ⟨[{ l := plainI (nums l) }, { i := errI (nums l) }], Runs.step rfl hpre ?_, rfl⟩
  simp only [StOk, E.den, BiO.den, UnO.den, I24, List.map_cons, List.map_nil, List.getD_cons_zero, Bool.not_eq_true', Bool.not_eq_false', beq_iff_eq, beq_eq_false_iff_ne]
  refine ⟨fun h => by rw [plain_bad rfl h], fun h => ?_⟩
  exact rPlain1 h l.length 0 (by omega)

/-! ### the datum -/
theorem sortPre_ones (K : List Int) : sortPre (ones K) K.length = ones (sortI K) := by
  unfold sortPre sortI
  rw [show ((ones K).take K.length) = ones K from by rw [List.take_of_length_le (by rw [ones_len]; omega)], List.drop_of_length_le (by rw [ones_len]; omega), List.append_nil]
  have : ((ones K).map fun r => r.getD 0 0) = K := nums_ones K
  rw [this]
  rfl
theorem left_get {l : List Int} {d j : Nat} (h : d + j < l.length - d) : (leftI l d).getD j 0 = (sortI l).getD (d + j) 0 := by
  rw [leftI_eq, List.getD_eq_getElem?_getD, List.getD_eq_getElem?_getD, Int.toNat_natCast, List.getElem?_take, if_pos (by omega), List.getElem?_drop]
theorem left_in {l : List Int} {d : Int} {x : Int} (h : x ∈ leftI l d) : x ∈ l := by
  rw [leftI_eq] at h
  exact (sortI_perm l).subset (List.mem_of_mem_drop (List.mem_of_mem_take h))
theorem rDatum2 {l : List (List Int)} {d : Nat} (hE : errI (nums l) = 0) (hd : 2 * d < l.length) : ∀ f j : Nat, j + f = l.length - 2 * d →
    Runs I24 (tmsDatum.map Tm.pre) ssDatum 2 [{ l := l }, { i := (d : Int) }, { l := ones (sortI (nums l)) }, { i := ((leftI (nums l) d).take j).sum }, { i := (j : Int) }] [{ i := meanI (leftI (nums l) d) }, { i := 0 }]
  | f, j, hf => by
    have hnl := nums_len l
    obtain ⟨h24, hin⟩ := errI_0 hE
    have hsl := sortI_len (nums l)
    have hll : (leftI (nums l) d).length = l.length - 2 * d := by rw [leftI_eq, List.length_take, List.length_drop, hsl, Int.toNat_natCast]; omega
    have hlin : ∀ x ∈ leftI (nums l) d, -7600 ≤ x ∧ x ≤ 7600 := fun x hx => hin x (left_in hx)
    have hdiv : ((l.length : Int) + 1).tdiv 2 = ((l.length : Int) + 1) / 2 := Int.tdiv_eq_ediv_of_nonneg (by omega)
    refine Runs.step rfl ?_ ?_
    · simp only [tmsDatum, List.map_cons, List.getD_cons_zero, List.getD_cons_succ, holds_cons_iff, E.den, BiO.den, UnO.den, I24, decide_eq_true_eq, beq_iff_eq]
      exact ⟨by omega, by omega, by rw [hdiv]; omega, hE, by omega, Holds.nil⟩
    · have wl : IntKind.wrap .i64 ((l.length : Int) - (d : Int)) = (l.length : Int) - d := w64 (by omega) (by omega)
      simp only [StOk, E.den, BiO.den, UnO.den, TeO.den, I24, List.map_cons, List.map_nil, List.getD_cons_zero, List.getD_cons_succ, Int.toNat_zero, decide_eq_true_eq, decide_eq_false_iff_not, wl, holds_cons_iff, holds_nil_iff, ones_len, Bool.not_eq_true', beq_eq_false_iff_ne]
      refine ⟨fun hlt => ?_, fun hge => ?_⟩
      · have hdj : ((d : Int) + (j : Int)).toNat = d + j := by omega
        have hg := left_get (l := nums l) (d := d) (j := j) (by omega)
        have hm := hlin ((leftI (nums l) d).getD j 0) (get_in (by omega))
        have hsum := sum_in ((leftI (nums l) d).take j) (fun x hx => hlin x (List.mem_of_mem_take hx))
        rw [List.length_take] at hsum
        rw [hdj, get_ones, ← hg, w64 (by omega) (by omega)]
        refine ⟨⟨by omega, trivial⟩, fun _ => ?_⟩
        cases f with
        | zero => omega
        | succ f =>
          have := rDatum2 hE hd f (j + 1) (by omega)
          rw [take_snocI (by omega), sum_snoc, Int.natCast_add, Int.natCast_one] at this
          exact this
      · rw [List.take_of_length_le (show (leftI (nums l) d).length ≤ j by omega)]
        have hsum := sum_in (leftI (nums l) d) hlin
        obtain ⟨s1, s2, s3⟩ := tensI_spec (l := leftI (nums l) d) (by omega)
        have ht : tensI (leftI (nums l) d) = (2 * (if -(leftI (nums l) d).sum > (leftI (nums l) d).sum then -(leftI (nums l) d).sum else (leftI (nums l) d).sum) + 10 * ((l.length : Int) - d - d)).tdiv (20 * ((l.length : Int) - d - d)) := by
          unfold tensI
          rw [show ((leftI (nums l) d).length : Int) = (l.length : Int) - d - d from by omega]
        generalize hX : (leftI (nums l) d).sum = X at *
        have habs : 0 ≤ (if -X > X then -X else X) ∧ (if -X > X then -X else X) ≤ 7600 * 24 := by split <;> omega
        have hT : tensI (leftI (nums l) d) ≤ 7600 * 24 + 24 := by
          refine Classical.byContradiction fun q => ?_
          have : 1 * tensI (leftI (nums l) d) ≤ ((leftI (nums l) d).length : Int) * tensI (leftI (nums l) d) := Int.mul_le_mul_of_nonneg_right (by omega) s3
          omega
        rw [show (0 : Int) - X = -X from Int.zero_sub X, w64 (x := -X) (by omega) (by omega), w64 (x := 2 * (if -X > X then -X else X)) (by omega) (by omega), w64 (x := 10 * ((l.length : Int) - d - d)) (by omega) (by omega), w64 (x := 20 * ((l.length : Int) - d - d)) (by omega) (by omega), w64 (x := 2 * (if -X > X then -X else X) + 10 * ((l.length : Int) - d - d)) (by omega) (by omega), ← ht, w64 (x := tensI (leftI (nums l) d)) (by omega) (by omega)]
        refine ⟨⟨by omega, trivial⟩, fun _ => ⟨fun q => ?_, fun q => ?_⟩⟩
        · rw [Int.zero_sub, w64 (x := -tensI (leftI (nums l) d)) (by omega) (by omega), w64 (by omega) (by omega)]
          unfold meanI
          rw [hX, if_pos q]
        · rw [w64 (by omega) (by omega)]
          unfold meanI
          rw [hX, if_neg q]
theorem rDatum1 {l : List (List Int)} {d : Nat} (hE : errI (nums l) = 0) (hd : 2 * d < l.length) : ∀ f i : Nat, i + f = l.length →
    Runs I24 (tmsDatum.map Tm.pre) ssDatum 1 [{ l := l }, { i := (d : Int) }, { l := ones ((nums l).take i) }, { i := (i : Int) }] [{ i := meanI (leftI (nums l) d) }, { i := 0 }]
  | f, i, hf => by
    have hnl := nums_len l
    obtain ⟨h24, hin⟩ := errI_0 hE
    have hol : (ones ((nums l).take i)).length = i := by rw [ones_len, List.length_take]; omega
    have hdiv : ((l.length : Int) + 1).tdiv 2 = ((l.length : Int) + 1) / 2 := Int.tdiv_eq_ediv_of_nonneg (by omega)
    refine Runs.step rfl ?_ ?_
    · simp only [tmsDatum, List.map_cons, List.getD_cons_zero, List.getD_cons_succ, holds_cons_iff, E.den, BiO.den, UnO.den, I24, decide_eq_true_eq, beq_iff_eq]
      exact ⟨by omega, by omega, by omega, by rw [hdiv]; omega, hE, by omega, Holds.nil⟩
    · have wl : IntKind.wrap .i64 ((l.length : Int) - (d : Int)) = (l.length : Int) - d := w64 (by omega) (by omega)
      simp only [StOk, E.den, BiO.den, UnO.den, TeO.den, I24, List.map_cons, List.map_nil, List.getD_cons_zero, List.getD_cons_succ, Int.toNat_natCast, Int.toNat_zero, decide_eq_true_eq, decide_eq_false_iff_not, wl, holds_cons_iff, holds_nil_iff, hol, ← nums_get]
      refine ⟨fun hlt => ?_, fun hge => ?_⟩
      · cases f with
        | zero => omega
        | succ f =>
          have := rDatum1 hE hd f (i + 1) (by omega)
          rw [take_snocI (by omega), ones_snoc, Int.natCast_add, Int.natCast_one] at this
          exact this
      · have hi : i = (nums l).length := by omega
        subst hi
        rw [List.take_length, sortPre_ones]
        refine ⟨⟨by omega, by omega, trivial⟩, fun _ => ?_⟩
        exact rDatum2 hE hd (l.length - 2 * d) 0 (by omega)
theorem vSort1 : cSort1.Valid (cx [] []) I24 := vSortOf rfl (fun _ _ => rfl)
theorem vDatum : cDatum.Valid (cx [] []) I24 := by
  refine re (Ctr.valid_run (C := cx [cRight, cSort1] [35, 65, 76]) resp24 (glIn _ _) (allOf (.cons vRight (.cons vSort1 .nil))) (by decide) (by decide) (by kernel_rfl) rfl sDatum [.l, .i] [.i, .i] (by decide) ?_)
  intro ρ0 hρ hpre _
  obtain ⟨l, d, rfl⟩ := two_li hρ
  have hnl := nums_len l
  refine ⟨[{ i := datV (nums l) d }, { i := datE (nums l) d }], Runs.step rfl hpre ?_, rfl⟩
  simp only [StOk, E.den, BiO.den, UnO.den, I24, List.map_cons, List.map_nil, List.getD_cons_zero, List.getD_cons_succ, Bool.not_eq_true', Bool.not_eq_false', beq_iff_eq, beq_eq_false_iff_ne, decide_eq_true_eq, decide_eq_false_iff_not]
  refine ⟨fun h => ?_, fun h => ⟨fun q => ?_, fun q => ⟨fun q' => ?_, fun q' => ?_⟩⟩⟩
  · have := datE_bad rfl h d
    rw [(datV_bad this h).1, this]
  · have := datE_far h (d := d) (Or.inl q)
    rw [(datV_bad this (by decide)).1, this]
  · have := datE_far h (d := d) (Or.inr (by rw [hnl]; exact q'))
    rw [(datV_bad this (by decide)).1, this]
  · have h0 := datE_ok h (d := d) (by omega) (by rw [hnl]; omega)
    have hlen := (left_len h0).1
    obtain ⟨D, rfl⟩ := int_nat (x := d) (by omega)
    rw [Int.toNat_natCast, hnl] at hlen
    have := rDatum1 (d := D) h hlen l.length 0 (by omega)
    rw [datV, if_neg (fun q => q h0), h0]
    exact this

/-! ### Butler -/
theorem rButler {l : List (List Int)} {d v : Int} (hE : datE (nums l) d = 0) (hv : datV (nums l) d = v) (hv0 : -7700 ≤ v ∧ v ≤ 7700) : ∀ f i : Nat, i + f = l.length →
    Runs I24 (tmsButler.map Tm.pre) ssButler 1 [{ l := l }, { i := d }, { i := v }, { l := ones (((nums l).take i).map fun s => impN (s - v)) }, { i := (i : Int) }] [{ l := ones (butI (nums l) d) }, { i := datE (nums l) d }]
  | f, i, hf => by
    have hnl := nums_len l
    obtain ⟨h24, hin⟩ := errI_0 (datE_0 hE).1
    have hol : (ones (((nums l).take i).map fun s => impN (s - v))).length = i := by rw [ones_len, List.length_map, List.length_take]; omega
    refine Runs.step rfl ?_ ?_
    · simp only [tmsButler, List.map_cons, List.getD_cons_zero, List.getD_cons_succ, holds_cons_iff, E.den, BiO.den, UnO.den, I24, decide_eq_true_eq, beq_iff_eq]
      exact ⟨by omega, by omega, hE, by omega, Holds.nil⟩
    · simp only [StOk, E.den, BiO.den, UnO.den, TeO.den, I24, List.map_cons, List.map_nil, List.getD_cons_zero, List.getD_cons_succ, Int.toNat_natCast, Int.toNat_zero, decide_eq_true_eq, decide_eq_false_iff_not, ← nums_get]
      refine ⟨fun hlt => ?_, fun hge => ?_⟩
      · have hsi := hin ((nums l).getD i 0) (get_in (by omega))
        rw [w64 (by omega) (by omega)]
        cases f with
        | zero => omega
        | succ f =>
          have := rButler hE hv hv0 f (i + 1) (by omega)
          rw [take_snocI (by omega), List.map_append, List.map_cons, List.map_nil, ones_snoc, Int.natCast_add, Int.natCast_one] at this
          exact this
      · rw [List.take_of_length_le (by omega), hE]
        unfold butI
        rw [if_neg (fun q => q hE), hv]
theorem datV_in {l : List Int} (d : Int) : -7700 ≤ datV l d ∧ datV l d ≤ 7700 := by
  by_cases h : datE l d = 0
  · have hin := (errI_0 (datE_0 h).1).2
    have hl := left_len h
    have := meanI_in (l := leftI l d) (by omega) (a := -7600) (b := 7600) (fun x hx => (hin x (left_in hx)).1) (fun x hx => (hin x (left_in hx)).2)
    rw [datV, if_neg (fun q => q h)]
    omega
  · rw [(datV_bad rfl h).1]; omega
theorem vButler : cButler.Valid (cx [] []) I24 := by
  refine re (Ctr.valid_run (C := cx [cDatum, cImp] [33]) resp24 (glIn _ _) (allOf (.cons vDatum (.cons vImp .nil))) (by decide) (by decide) (by kernel_rfl) rfl sButler [.l, .i] [.l, .i] (by decide) ?_)
  intro ρ0 hρ hpre _
  obtain ⟨l, d, rfl⟩ := two_li hρ
  refine ⟨[{ l := ones (butI (nums l) d) }, { i := datE (nums l) d }], Runs.step rfl hpre ?_, rfl⟩
  simp only [StOk, E.den, BiO.den, UnO.den, I24, List.map_cons, List.map_nil, List.getD_cons_zero, List.getD_cons_succ, Bool.not_eq_true', Bool.not_eq_false', beq_iff_eq, beq_eq_false_iff_ne]
  refine ⟨fun h => by rw [(datV_bad rfl h).2]; rfl, fun h => ?_⟩
  exact rButler h rfl (datV_in d) l.length 0 (by omega)

/-! ### scores of the laws -/
theorem rScores {l : List (List Int)} (hel : (l.all fun r => r.all fun x => decide ((-32768 : Int) ≤ x) && decide (x ≤ 32767)) = true) : ∀ f i : Nat, i + f = min l.length 24 →
    Runs I24 (tmsScores.map Tm.pre) ssScores 1 [{ l := l }, { l := ones (((nums l).take i).map scoreI) }, { i := (i : Int) }] [{ l := ones (scoresI (nums l)) }]
  | f, i, hf => by
    have hnl := nums_len l
    have hol : (ones (((nums l).take i).map scoreI)).length = i := by rw [ones_len, List.length_map, List.length_take]; omega
    have hmin : (if (24 : Int) < (l.length : Int) then (24 : Int) else (l.length : Int)) = ((min l.length 24 : Nat) : Int) := by split <;> omega
    refine Runs.step rfl ?_ ?_
    · simp only [tmsScores, List.map_cons, List.getD_cons_zero, List.getD_cons_succ, holds_cons_iff, E.den, BiO.den, UnO.den, TeO.den, I24, decide_eq_true_eq, beq_iff_eq, hmin]
      exact ⟨by omega, by omega, by omega, hel, Holds.nil⟩
    · simp only [StOk, E.den, BiO.den, UnO.den, TeO.den, I24, List.map_cons, List.map_nil, List.getD_cons_zero, List.getD_cons_succ, Int.toNat_natCast, Int.toNat_zero, decide_eq_true_eq, decide_eq_false_iff_not, Bool.not_eq_true', Bool.not_eq_false', beq_iff_eq, beq_eq_false_iff_ne, hmin, ← nums_get]
      refine ⟨fun hlt => ?_, fun hge => ?_⟩
      · cases f with
        | zero => omega
        | succ f =>
          have := rScores hel f (i + 1) (by omega)
          rw [take_snocI (by omega), List.map_append, List.map_cons, List.map_nil, ones_snoc, Int.natCast_add, Int.natCast_one] at this
          unfold scoreI at this
          refine ⟨fun q => ?_, fun q => ?_⟩
          · rw [if_pos q] at this; exact this
          · rw [if_neg (fun h => h q)] at this; exact this
      · unfold scoresI
        rw [show (nums l).take i = (nums l).take 24 from by
          rcases Nat.le_total l.length 24 with h | h
          · rw [List.take_of_length_le (by omega), List.take_of_length_le (by omega)]
          · rw [show i = 24 from by omega]]
theorem vScores : cScores.Valid (cx [] []) I24 := by
  refine re (Ctr.valid_run (C := cx [] [cScores.fn]) resp24 (glIn _ _) (fun c hc => by cases hc) (by decide) (by decide) (by kernel_rfl) rfl sScores [.l] [.l] (by decide) ?_)
  intro ρ0 hρ hpre _
  obtain ⟨l, rfl⟩ := one_l hρ
  have hp := hpre
  simp only [cScores, el16, holds_cons_iff, E.den, TeO.den, List.getD_cons_zero] at hp
  refine ⟨[{ l := ones (scoresI (nums l)) }], Runs.step rfl hpre ?_, rfl⟩
  refine ne_ed ?_ ?_
  · simp only [holds_cons_iff, holds_nil_iff, E.den, BiO.den, UnO.den, List.getD_cons_zero, decide_eq_true_eq]
    exact ⟨by split <;> omega, trivial⟩
  · exact rScores hp.1 (min l.length 24) 0 (by omega)
end Go.Proofs.YtnpadkajapialaaDoor
