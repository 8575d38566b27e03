/- Chapter 27: movements compared; the reference's Make. -/
import Derived.Test.YtiohgpifeamkhaaC27P
namespace Go.Proofs.Ytiohgpifeamkhaa
open Go Go.Sx Go.Proofs.C27

theorem eqR_iff {w : Nat} {a b : List (List Int)} : eqR w a b = true ↔ a.length = b.length ∧ ∀ i, i < a.length → ∀ c, c < w → (a.getD i []).getD c 0 = (b.getD i []).getD c 0 := by
  unfold eqR
  simp only [Bool.and_eq_true, List.all_eq_true, List.mem_range, beq_iff_eq]
theorem eqR_refl (w : Nat) (a : List (List Int)) : eqR w a a = true := eqR_iff.2 ⟨rfl, fun _ _ _ _ => rfl⟩
theorem rRows {a b : List (List Int)} (hl : a.length ≤ 5000) (hlen : a.length = b.length) : ∀ f i : Nat, i + f = a.length → (∀ j, j < i → ∀ c, c < 5 → (a.getD j []).getD c 0 = (b.getD j []).getD c 0) →
    Runs I27 (tmsRows.map Tm.pre) ssRows 1 [{ l := a }, { l := b }, { i := (i : Int) }] [{ b := eqR 5 a b }]
  | f, i, hi, hj => by
    refine Runs.step rfl ?_ ?_
    · simp only [tmsRows, List.map_cons, List.getD_cons_zero, List.getD_cons_succ, holds_cons_iff, E.den, BiO.den, UnO.den, decide_eq_true_eq, beq_iff_eq]
      (repeat' refine And.intro ?_ ?_) <;> first | exact Holds.nil | omega
    · simp only [StOk, E.den, BiO.den, UnO.den, TeO.den, List.map_cons, List.map_nil, List.getD_cons_zero, List.getD_cons_succ, decide_eq_true_eq, decide_eq_false_iff_not, Int.toNat_natCast, Int.toNat_zero, show Int.toNat 1 = 1 from rfl, show Int.toNat 2 = 2 from rfl, show Int.toNat 3 = 3 from rfl, show Int.toNat 4 = 4 from rfl, Bool.not_eq_true', Bool.not_eq_false', Bool.and_eq_true, Bool.and_eq_false_iff, beq_iff_eq, beq_eq_false_iff_ne]
      refine ⟨fun hlt => ⟨fun q => ?_, fun q => ?_⟩, fun hge => ?_⟩
      · have : eqR 5 a b ≠ true := by
          intro h
          have h2 := (eqR_iff.1 h).2 i (by omega)
          have e0 := h2 0 (by omega)
          have e1 := h2 1 (by omega)
          have e2 := h2 2 (by omega)
          have e3 := h2 3 (by omega)
          have e4 := h2 4 (by omega)
          omega
        rw [Bool.eq_false_iff.2 this]
      · cases f with
        | zero => omega
        | succ f =>
          refine rRows hl hlen f (i + 1) (by omega) fun j hj' c hc => ?_
          rcases Nat.lt_or_eq_of_le (Nat.le_of_lt_succ hj') with h | rfl
          · exact hj j h c hc
          · obtain ⟨q0, q1, q2, q3, q4⟩ := q
            match c, hc with
            | 0, _ => exact q0
            | 1, _ => exact q1
            | 2, _ => exact q2
            | 3, _ => exact q3
            | 4, _ => exact q4
      · have : eqR 5 a b = true := eqR_iff.2 ⟨hlen, fun j hj' c hc => hj j (by omega) c hc⟩
        rw [this]

theorem vRows : cRows.Valid (cx [] []) I27 := by
  refine re (Ctr.valid_run resp27 (glIn _ _) (fun c hc => by cases hc) (by decide) (by decide) (by kernel_rfl) rfl sRows [.l, .l] [.b] (by decide) ?_)
  intro ρ0 hρ hpre _
  obtain ⟨a, b, rfl⟩ := two_ll hρ
  have hp := hpre
  simp only [cRows, most, holds_cons_iff, E.den, BiO.den, UnO.den, List.getD_cons_zero, decide_eq_true_eq] at hp
  obtain ⟨h1, _⟩ := hp
  refine ⟨[{ b := eqR 5 a b }], Runs.step rfl hpre ?_, rfl⟩
  simp only [StOk, E.den, BiO.den, UnO.den, List.map_cons, List.map_nil, List.getD_cons_zero, List.getD_cons_succ, Bool.not_eq_true', Bool.not_eq_false', beq_iff_eq, beq_eq_false_iff_ne]
  refine ⟨fun q => ?_, fun q => ?_⟩
  · have : eqR 5 a b ≠ true := fun h => by have := (eqR_iff.1 h).1; omega
    rw [Bool.eq_false_iff.2 this]
  · exact rRows (by omega) (by omega) a.length 0 (by omega) (fun j h => by omega)

theorem vSame : cSame.Valid (cx [] []) I27 := by
  refine re (Ctr.valid_run resp27 (glIn _ _) (allOf (.cons vRows .nil)) (by decide) (by decide) (by kernel_rfl) rfl sSame [.i, .i, .i, .i, .i, .l, .i, .i, .i, .i, .i, .l] [.b] (by decide) ?_)
  intro ρ0 hρ hpre _
  have hp := hpre
  simp only [cSame, most, holds_cons_iff] at hp
  obtain ⟨_, _, _, _, _, _, h2, _⟩ := hp
  refine ⟨[{ b := true }], Runs.step rfl hpre ?_, rfl⟩
  have h3 : eqR 5 (ρ0.getD 5 {}).l (ρ0.getD 11 {}).l = true := h2
  show [({ b := eqR 5 (ρ0.getD 5 {}).l (ρ0.getD 11 {}).l } : U)] = [{ b := true }]
  rw [h3]


theorem vRowsN : cRowsN.Valid (cx [] [cRows.fn]) I27 := by
  refine Ctr.valid_run resp27 (glIn _ _) (fun c hc => by cases hc) (by decide) (by decide) (by kernel_rfl) rfl sRowsN [.l] [.b] (by decide) ?_
  intro ρ0 hρ hpre _
  obtain ⟨a, rfl⟩ := one_l hρ
  have hp := hpre
  simp only [cRowsN, holds_cons_iff, E.den, BiO.den, UnO.den, List.getD_cons_zero, beq_iff_eq] at hp
  refine ⟨[{ b := true }], Runs.step rfl hpre ?_, rfl⟩
  show Runs _ _ _ 1 [{ l := a }] _
  refine Runs.step rfl ?_ rfl
  simp only [tmsRowsN, List.map_cons, List.getD_cons_zero, List.getD_cons_succ, holds_cons_iff, E.den, BiO.den, UnO.den, beq_iff_eq]
  exact ⟨hp.1, Holds.nil⟩
theorem eleven_m {ρ0 : List U} (h : ρ0 = normU [.i, .i, .i, .i, .i, .l, .i, .i, .i, .i, .i] ρ0) : ∃ (a b c d e : Int) (m : List (List Int)) (a' b' c' d' e' : Int), ρ0 = [{ i := a }, { i := b }, { i := c }, { i := d }, { i := e }, { l := m }, { i := a' }, { i := b' }, { i := c' }, { i := d' }, { i := e' }] := ⟨_, _, _, _, _, _, _, _, _, _, _, h⟩
theorem vSameN : cSameN.Valid (cx [] []) I27 := by
  refine re (Ctr.valid_run resp27 (glIn _ _) (allOf (.cons (re vRowsN) .nil)) (by decide) (by decide) (by kernel_rfl) rfl sSameN [.i, .i, .i, .i, .i, .l, .i, .i, .i, .i, .i] [.b] (by decide) ?_)
  intro ρ0 hρ hpre _
  obtain ⟨a, b, c, d, e, m, a', b', c', d', e', rfl⟩ := eleven_m hρ
  exact ⟨[{ b := true }], Runs.step rfl hpre rfl, rfl⟩

/-! ### the reference's Make -/
theorem rrow_3 {t S r j : Nat} (hr : r < t) (_ : j < t) (ht : t ≤ 24) (hjr : (j : Int) - r < 0) : [(r : Int), (j : Int), (j : Int) + 1, (t : Int) + (IntKind.wrap .i64 ((j : Int) - (r : Int)) + (t : Int)) + 1, (r : Int)] = rowW t 3 S r j := by
  rw [w64 (x := (j : Int) - r) (by omega) (by omega)]
  unfold C27.rowW
  rw [if_neg (by omega), if_pos rfl]
  congr 4
  omega
theorem rrow_3' {t S r j : Nat} (hr : r < t) (hj : j < t) (ht : t ≤ 24) (hjr : ¬ (j : Int) - r < 0) : [(r : Int), (j : Int), (j : Int) + 1, IntKind.wrap .i64 ((t : Int) + IntKind.wrap .i64 ((j : Int) - (r : Int)) + 1), (r : Int)] = rowW t 3 S r j := by
  rw [w64 (x := (j : Int) - r) (by omega) (by omega), w64 (x := (t : Int) + ((j : Int) - r) + 1) (by omega) (by omega)]
  unfold C27.rowW
  rw [if_pos (by omega), if_pos rfl]
  congr 4
  omega
theorem rrow_k {t k S r j : Nat} (hk : k ≠ 3) (hr : r < t) (hj : j < t) (ht : t ≤ 24) (hjr : (j : Int) - r < 0) : [(r : Int), (j : Int), (j : Int) + 1, (t : Int) + (IntKind.wrap .i64 ((j : Int) - (r : Int)) + (t : Int)) + 1, (IntKind.wrap .i64 ((j : Int) + (r : Int))).tmod (S : Int)] = rowW t k S r j := by
  rw [w64 (x := (j : Int) - r) (by omega) (by omega), w64 (x := (j : Int) + r) (by omega) (by omega), Int.tmod_eq_emod_of_nonneg (by omega)]
  unfold C27.rowW
  rw [if_neg (by omega), if_neg hk]
  congr 4
  · omega
theorem rrow_k' {t k S r j : Nat} (hk : k ≠ 3) (hr : r < t) (hj : j < t) (ht : t ≤ 24) (hjr : ¬ (j : Int) - r < 0) : [(r : Int), (j : Int), (j : Int) + 1, IntKind.wrap .i64 ((t : Int) + IntKind.wrap .i64 ((j : Int) - (r : Int)) + 1), (IntKind.wrap .i64 ((j : Int) + (r : Int))).tmod (S : Int)] = rowW t k S r j := by
  rw [w64 (x := (j : Int) - r) (by omega) (by omega), w64 (x := (t : Int) + ((j : Int) - r) + 1) (by omega) (by omega), w64 (x := (j : Int) + r) (by omega) (by omega), Int.tmod_eq_emod_of_nonneg (by omega)]
  unfold C27.rowW
  rw [if_pos (by omega), if_neg hk]
  congr 4
  · omega

theorem rRMake {t k S R : Nat} {C : Int} (h2 : 2 ≤ t) (h24 : t ≤ 24) (hk1 : 1 ≤ k) (hk : k ≤ 3) (hS : 1 ≤ S) (hSe : setsV t k = S) (hR : R ≤ t) (h1 : 1 ≤ R) (hC : 2 ≤ C) (hw : wayE t k = 0) (hm : (R : Int) ≤ mostV t k) {out : List U} (ho : [({ i := (t : Int) } : U), { i := (R : Int) }, { i := (S : Int) }, { i := C }, { i := 2 }, { l := rowsW t k S R }, { i := 0 }] = out) : ∀ f r : Nat, r + f = R →
    Runs I27 (tmsRMake.map Tm.pre) ssRMake 1 [{ i := (t : Int) }, { i := (R : Int) }, { i := (k : Int) }, { i := C }, { i := (r : Int) }, { l := rowsW t k S r }] out
  | f, r, hf => by
    have hl := rowsW_len t k S r
    have hb : r * t ≤ 24 * 24 := Nat.mul_le_mul (by omega) (by omega)
    refine Runs.step rfl ?_ ?_
    · simp only [tmsRMake, List.map_cons, List.getD_cons_zero, List.getD_cons_succ, holds_cons_iff, E.den, BiO.den, I27, decide_eq_true_eq, beq_iff_eq]
      (repeat' refine And.intro ?_ ?_) <;> first | exact Holds.nil | omega | trivial
    · simp only [StOk, E.den, BiO.den, I27, List.map_cons, List.map_nil, List.getD_cons_zero, List.getD_cons_succ, decide_eq_true_eq, decide_eq_false_iff_not, hSe]
      refine ⟨fun hlt => ?_, fun hge => ?_⟩
      · cases f with
        | zero => omega
        | succ f =>
          have hrow : ∀ g j : Nat, j + g = t → Runs I27 (tmsRMake.map Tm.pre) ssRMake 2 [{ i := (t : Int) }, { i := (R : Int) }, { i := (k : Int) }, { i := C }, { l := rowsW t k S r ++ (List.range j).map (rowW t k S r) }, { i := (j : Int) }, { i := (r : Int) }] out := by
            intro g
            induction g with
            | zero =>
              intro j hj
              refine Runs.step rfl ?_ ?_
              · simp only [tmsRMake, List.map_cons, List.getD_cons_zero, List.getD_cons_succ, holds_cons_iff, E.den, BiO.den, UnO.den, I27, decide_eq_true_eq, beq_iff_eq, List.length_append, List.length_map, List.length_range]
                (repeat' refine And.intro ?_ ?_) <;> first | exact Holds.nil | omega | trivial
              · simp only [StOk, E.den, BiO.den, UnO.den, I27, List.map_cons, List.map_nil, List.getD_cons_zero, List.getD_cons_succ, decide_eq_true_eq, decide_eq_false_iff_not, holds_cons_iff, holds_nil_iff]
                refine ⟨fun hlt => by omega, fun _ => ?_⟩
                rw [show j = t from by omega, ← rowsW_succ, w64 (x := (r : Int) + 1) (by omega) (by omega)]
                exact rRMake h2 h24 hk1 hk hS hSe hR h1 hC hw hm ho f (r + 1) (by omega)
            | succ g ih =>
              intro j hj
              refine Runs.step rfl ?_ ?_
              · simp only [tmsRMake, List.map_cons, List.getD_cons_zero, List.getD_cons_succ, holds_cons_iff, E.den, BiO.den, UnO.den, I27, decide_eq_true_eq, beq_iff_eq, List.length_append, List.length_map, List.length_range]
                (repeat' refine And.intro ?_ ?_) <;> first | exact Holds.nil | omega | trivial
              · have ih' := ih (j + 1) (by omega)
                rw [range_map_succ, ← List.append_assoc] at ih'
                simp only [StOk, E.den, BiO.den, UnO.den, I27, List.map_cons, List.map_nil, List.getD_cons_zero, List.getD_cons_succ, decide_eq_true_eq, decide_eq_false_iff_not, holds_cons_iff, holds_nil_iff, List.length_append, List.length_map, List.length_range, Bool.not_eq_true', Bool.not_eq_false', beq_eq_false_iff_ne, beq_iff_eq, hSe]
                have hwj : IntKind.wrap .i64 ((j : Int) - (r : Int)) = (j : Int) - r := w64 (by omega) (by omega)
                refine ⟨fun _ => ⟨fun hneg => ⟨fun k3 => ⟨⟨by omega, trivial⟩, fun _ => ⟨⟨by omega, trivial⟩, fun _ => ?_⟩⟩, fun k3 => ⟨⟨by omega, trivial⟩, fun _ => ?_⟩⟩, fun hpos => ⟨fun k3 => ⟨⟨by omega, trivial⟩, fun _ => ⟨⟨by omega, trivial⟩, fun _ => ?_⟩⟩, fun k3 => ⟨⟨by omega, trivial⟩, fun _ => ?_⟩⟩⟩, fun hge => by omega⟩
                · rw [← rrow_k (by omega) (by omega) (by omega) h24 (by rw [← hwj]; exact hneg)] at ih'
                  exact ih'
                · rw [show k = 3 from by omega] at ih' ⊢
                  rw [← rrow_3 (by omega) (by omega) h24 (by rw [← hwj]; exact hneg)] at ih'
                  exact ih'
                · rw [← rrow_k' (by omega) (by omega) (by omega) h24 (by rw [← hwj]; exact hpos)] at ih'
                  exact ih'
                · rw [show k = 3 from by omega] at ih' ⊢
                  rw [← rrow_3' (by omega) (by omega) h24 (by rw [← hwj]; exact hpos)] at ih'
                  exact ih'
          have := hrow t 0 (by omega)
          rw [List.range_zero, List.map_nil, List.append_nil] at this
          exact this
      · rw [show r = R from by omega]
        exact ho

theorem vRMake : cRMake.Valid (cx [] []) I27 := by
  refine re (Ctr.valid_run resp27 (glIn _ _) (allOf (.cons vRMost (.cons vRSets .nil))) (by decide) (by decide) (by kernel_rfl) rfl sRMake [.i, .i, .i] [.i, .i, .i, .i, .i, .l, .i] (by decide) ?_)
  intro ρ0 hρ hpre _
  obtain ⟨t, r, k, rfl⟩ := three_iii hρ
  refine ⟨makeOut t r k, Runs.step rfl hpre ?_, rfl⟩
  simp only [StOk, E.den, BiO.den, UnO.den, I27, List.map_cons, List.map_nil, List.getD_cons_zero, List.getD_cons_succ, decide_eq_true_eq, decide_eq_false_iff_not, beq_iff_eq, beq_eq_false_iff_ne, Bool.not_eq_true', Bool.not_eq_false', holds_cons_iff, holds_nil_iff]
  refine ⟨fun a => make_not (makeE_way a) a, fun a => ⟨fun b => make_not (makeE_less a b) (by decide), fun b => ⟨fun c => make_not (makeE_more a (by omega) c) (by decide), fun c => ?_⟩⟩⟩
  obtain ⟨g1, g2, g3, g4, _⟩ := way_0 a
  have hE : makeE t r k = 0 := makeE_ok a (by omega) (by omega)
  have hmt := mostV_le (t := t) (k := k) g1
  have hset := sets_in (k := k) g1 g2
  obtain ⟨S, hS⟩ := int_nat (x := setsV t k) (by omega)
  refine ⟨⟨by omega, by omega, by omega, by omega, trivial⟩, fun _ => ⟨fun k3 => ?_, fun k3 => ?_⟩⟩
  · have hy := make_yes hE hS.symm (show t = copiesK t k by unfold copiesK; rw [if_pos k3])
    obtain ⟨T, rfl⟩ := int_nat (x := t) (by omega)
    obtain ⟨R, rfl⟩ := int_nat (x := r) (by omega)
    obtain ⟨K, rfl⟩ := int_nat (x := k) (by omega)
    exact rRMake (by omega) (by omega) (by omega) (by omega) (by omega) hS (by omega) (by omega) (by omega) a (by omega) hy R 0 (by omega)
  · have hy := make_yes hE hS.symm (show (2 : Int) = copiesK t k by unfold copiesK; rw [if_neg k3])
    obtain ⟨T, rfl⟩ := int_nat (x := t) (by omega)
    obtain ⟨R, rfl⟩ := int_nat (x := r) (by omega)
    obtain ⟨K, rfl⟩ := int_nat (x := k) (by omega)
    exact rRMake (by omega) (by omega) (by omega) (by omega) (by omega) hS (by omega) (by omega) (by omega) a (by omega) hy R 0 (by omega)

theorem makeR_no {t r k : Int} (h : makeE t r k ≠ 0) : makeR t r k = [] := by unfold makeR; rw [if_pos h]
theorem makeR_len (t r k : Int) : (makeR t r k).length ≤ 576 := by
  by_cases h : makeE t r k = 0
  · obtain ⟨w, h1, h2⟩ := makeE_0 h
    obtain ⟨a, b, _⟩ := way_0 w
    have := mostV_le (k := k) a
    unfold makeR
    rw [if_neg (fun q => q h), rowsW_len]
    exact Nat.mul_le_mul (show r.toNat ≤ 24 by omega) (show t.toNat ≤ 24 by omega)
  · rw [makeR_no h]; exact Nat.zero_le _
theorem vMakes : cMakes.Valid (cx [] []) I27 := by
  refine re (Ctr.valid_run resp27 (glIn _ _) (allOf (.cons vMost (.cons vRMost (.cons vMake (.cons vRMake (.cons vSame .nil)))))) (by decide) (by decide) (by kernel_rfl) rfl sMakes [.i, .i, .i] [.b] (by decide) ?_)
  intro ρ0 hρ hpre _
  obtain ⟨t, r, k, rfl⟩ := three_iii hρ
  refine ⟨[{ b := true }], Runs.step rfl hpre ?_, rfl⟩
  have h1 := makeR_len t r k
  simp only [StOk, E.den, BiO.den, UnO.den, I27, List.map_cons, List.map_nil, List.getD_cons_zero, List.getD_cons_succ, holds_cons_iff, holds_nil_iff, decide_eq_true_eq]
  (repeat' refine And.intro ?_ ?_) <;> first | exact eqR_refl _ _ | omega | trivial | (intro _; rfl) | (intros; trivial) | simp
end Go.Proofs.Ytiohgpifeamkhaa
