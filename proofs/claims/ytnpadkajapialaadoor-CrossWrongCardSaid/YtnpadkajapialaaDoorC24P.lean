/- Chapter 24: match points, fractions, crosses, the datum. -/
import Derived.Test.YtnpadkajapialaaDoorC24S
import Derived.Test.YtnpadkajapialaaDoorC24M
namespace Go.Proofs.YtnpadkajapialaaDoor
open Go Go.Sx Go.Proofs.C24

theorem one_i {ρ0 : List U} (h : ρ0 = normU [.i] ρ0) : ∃ a : Int, ρ0 = [{ i := a }] := ⟨_, h⟩
theorem two_ii {ρ0 : List U} (h : ρ0 = normU [.i, .i] ρ0) : ∃ a b : Int, ρ0 = [{ i := a }, { i := b }] := ⟨_, _, h⟩
theorem three_bii {ρ0 : List U} (h : ρ0 = normU [.b, .i, .i] ρ0) : ∃ (a : Bool) (b c : Int), ρ0 = [{ b := a }, { i := b }, { i := c }] := ⟨_, _, _, h⟩
theorem one_l {ρ0 : List U} (h : ρ0 = normU [.l] ρ0) : ∃ a : List (List Int), ρ0 = [{ l := a }] := ⟨_, h⟩
theorem two_ll {ρ0 : List U} (h : ρ0 = normU [.l, .l] ρ0) : ∃ a b : List (List Int), ρ0 = [{ l := a }, { l := b }] := ⟨_, _, h⟩
theorem two_li {ρ0 : List U} (h : ρ0 = normU [.l, .i] ρ0) : ∃ (a : List (List Int)) (b : Int), ρ0 = [{ l := a }, { i := b }] := ⟨_, _, h⟩
theorem int_nat {x : Int} (h : 0 ≤ x) : ∃ n : Nat, x = n := ⟨x.toNat, by omega⟩
theorem w64u {x : Int} (h1 : 0 ≤ x) (h2 : x ≤ 18446744073709551615) : IntKind.wrap .u64 x = x := wrap_fit (by simpa [IntKind.min, IntKind.signed, IntKind.bits] using h1) (by simpa [IntKind.max, IntKind.signed, IntKind.bits] using h2)

/-! ### match points -/
def impP (d : Int) (k : Nat) : Int := ((scaleL.take k).map fun s => if s ≤ d then (1 : Int) else if d ≤ 0 - s then -1 else 0).sum
theorem impP_step (d : Int) (k : Nat) (hk : k < 24) : impP d (k + 1) = impP d k + (if scaleL.getD k 0 ≤ d then (1 : Int) else if d ≤ 0 - scaleL.getD k 0 then -1 else 0) := by
  have hl : k < scaleL.length := hk
  unfold impP
  rw [List.take_add_one, List.getElem?_eq_getElem hl, List.map_append, List.sum_append]
  simp [List.getD_eq_getElem?_getD, List.getElem?_eq_getElem hl]
theorem impP_bound (d : Int) : ∀ k : Nat, k ≤ 24 → -(k : Int) ≤ impP d k ∧ impP d k ≤ k
  | 0, _ => by simp [impP]
  | k + 1, h => by
    have ih := impP_bound d k (by omega)
    rw [impP_step d k (by omega)]
    split
    · omega
    · split <;> omega
theorem impN_in (d : Int) : -24 ≤ impN d ∧ impN d ≤ 24 := impP_bound d 24 (Nat.le_refl _)
theorem rImp (d : Int) : ∀ m k : Nat, k + m = 24 → Runs I24 (tmsImp.map Tm.pre) ssImp 1 [{ i := d }, { i := impP d k }, { i := k }] [{ i := impN d }]
  | m, k, h => by
    have hb := impP_bound d k (by omega)
    refine Runs.step rfl ?_ ?_
    · simp only [tmsImp, List.map_cons, List.getD_cons_zero, List.getD_cons_succ, holds_cons_iff, E.den, BiO.den, decide_eq_true_eq]
      refine ⟨?_, ?_, ?_, ?_, Holds.nil⟩ <;> omega
    · simp only [StOk, E.den, BiO.den, UnO.den, List.map_cons, List.map_nil, List.getD_cons_zero, List.getD_cons_succ, decide_eq_true_eq, decide_eq_false_iff_not, Int.toNat_natCast]
      refine ⟨fun h1 => ?_, fun h1 => ?_⟩
      · have hs := impP_step d k (by omega)
        cases m with
        | zero => omega
        | succ m =>
          have ih := rImp d m (k + 1) (by omega)
          rw [hs] at ih
          refine ⟨fun h2 => ?_, fun h2 => ⟨fun h3 => ?_, fun h3 => ?_⟩⟩
          · rw [if_pos h2] at ih; exact ih
          · rw [if_neg h2, if_pos h3] at ih; exact ih
          · rw [if_neg h2, if_neg h3, Int.add_zero] at ih; exact ih
      · obtain rfl : k = 24 := by omega
        rfl
theorem vImp : cImp.Valid (cx [] []) I24 := by
  refine re (Ctr.valid_run (C := cx [] [cImp.fn]) resp24 (glIn _ _) (fun c hc => by cases hc) (by decide) (by decide) (by kernel_rfl) rfl sImp [.i] [.i] (by decide) ?_)
  intro ρ0 hρ hpre _
  obtain ⟨d, rfl⟩ := one_i hρ
  exact ⟨[{ i := impN d }], Runs.step rfl hpre (rImp d 24 0 rfl), rfl⟩

/-! ### fractions -/
theorem gF_nat (a b : Nat) : gF a b = (Nat.gcd a b : Nat) := rfl
theorem rGcd : ∀ (f a b : Nat), b ≤ f → a ≤ 1000000000000 → b ≤ 1000000000000 → Runs I24 (tmsGcd.map Tm.pre) ssGcd 1 [{ i := (a : Int) }, { i := (b : Int) }] [{ i := gF a b }]
  | f, a, b, hf, ha, hb => by
    refine Runs.step rfl ?_ ?_
    · simp only [tmsGcd, List.map_cons, List.getD_cons_zero, List.getD_cons_succ, holds_cons_iff, E.den, BiO.den, decide_eq_true_eq]
      refine ⟨?_, ?_, ?_, ?_, Holds.nil⟩ <;> omega
    · simp only [StOk, E.den, BiO.den, List.map_cons, List.map_nil, List.getD_cons_zero, List.getD_cons_succ, decide_eq_true_eq, decide_eq_false_iff_not]
      refine ⟨fun h => ?_, fun h => ?_⟩
      · have hm : (a : Int).tmod (b : Int) = ((a % b : Nat) : Int) := by rw [Int.tmod_eq_emod_of_nonneg (by omega)]; rfl
        have hlt : a % b < b := Nat.mod_lt _ (by omega)
        rw [hm]
        cases f with
        | zero => omega
        | succ f =>
          have := rGcd f b (a % b) (by omega) hb (by omega)
          rw [gF_nat, Nat.gcd_comm b, ← Nat.gcd_rec, Nat.gcd_comm b a] at this
          exact this
      · have : b = 0 := by omega
        subst this
        rw [gF_nat, Nat.gcd_zero_right]
theorem vGcd : cGcd.Valid (cx [] []) I24 := by
  refine re (Ctr.valid_run (C := cx [] [cGcd.fn]) resp24 (glIn _ _) (fun c hc => by cases hc) (by decide) (by decide) (by kernel_rfl) rfl sGcd [.i, .i] [.i] (by decide) ?_)
  intro ρ0 hρ hpre _
  obtain ⟨a, b, rfl⟩ := two_ii hρ
  have hp := hpre
  simp only [cGcd, le', List.cons_append, List.nil_append, holds_cons_iff, E.den, BiO.den, List.getD_cons_zero, List.getD_cons_succ, decide_eq_true_eq] at hp
  obtain ⟨a0, a1, b0, b1, _⟩ := hp
  refine ⟨[{ i := gF a b }], Runs.step rfl hpre ?_, rfl⟩
  obtain ⟨a, rfl⟩ := int_nat a0
  obtain ⟨b, rfl⟩ := int_nat b0
  exact rGcd b a b (Nat.le_refl _) (by omega) (by omega)
theorem neg_back {x : Int} (h0 : 0 ≤ x) (h1 : x ≤ 1000000000000) : IntKind.wrap .i64 (IntKind.wrap .u64 (0 - x)) = 0 - x := by
  simp [IntKind.wrap, IntKind.bits, IntKind.signed]
  omega
theorem neg_fore {x : Int} (h0 : -1000000000000 ≤ x) (h1 : x < 0) : IntKind.wrap .u64 (0 - IntKind.wrap .u64 x) = -x := by
  simp [IntKind.wrap, IntKind.bits, IntKind.signed]
  omega
theorem vFit : cFit.Valid (cx [] []) I24 := by
  refine Ctr.valid_run resp24 (glIn _ _) (fun c hc => by cases hc) (by decide) (by decide) (by kernel_rfl) rfl sFit [.b, .i, .i] [.i, .i] (by decide) ?_
  intro ρ0 hρ hpre _
  obtain ⟨n, x, y, rfl⟩ := three_bii hρ
  have hp := hpre
  simp only [cFit, le', List.cons_append, List.nil_append, holds_cons_iff, E.den, BiO.den, List.getD_cons_zero, List.getD_cons_succ, decide_eq_true_eq] at hp
  obtain ⟨a0, a1, b0, b1, _⟩ := hp
  refine ⟨[{ i := if n then 0 - x else x }, { i := y }], Runs.step rfl hpre ?_, ?_⟩
  · simp only [StOk, E.den, BiO.den, UnO.den, List.map_cons, List.map_nil, List.getD_cons_zero, List.getD_cons_succ]
    refine ⟨fun h => ?_, fun h => ?_⟩
    · subst h; rw [neg_back a0 a1]; rfl
    · subst h; rfl
  · cases n <;> rfl
theorem gF_pos {a b : Int} (h : 1 ≤ b) : 1 ≤ gF a b ∧ gF a b ≤ b ∧ gF a b ∣ a ∧ gF a b ∣ b := by
  have h1 : gF a b ∣ b := Int.gcd_dvd_right ..
  have h2 : gF a b ∣ a := Int.gcd_dvd_left ..
  have h3 : 0 ≤ gF a b := Int.natCast_nonneg _
  have h4 : gF a b ≠ 0 := by
    intro e
    rw [e] at h1
    have := Int.zero_dvd.1 h1
    omega
  exact ⟨by omega, Int.le_of_dvd (by omega) h1, h2, h1⟩
theorem fr_in {a b : Int} (h : 1 ≤ b) (h0 : 0 ≤ a) : 0 ≤ a.tdiv (gF a b) ∧ a.tdiv (gF a b) ≤ a ∧ 1 ≤ b.tdiv (gF a b) ∧ b.tdiv (gF a b) ≤ b := by
  obtain ⟨g1, g2, g3, g4⟩ := gF_pos (a := a) h
  rw [Int.tdiv_eq_ediv_of_nonneg h0, Int.tdiv_eq_ediv_of_nonneg (by omega)]
  refine ⟨Int.ediv_nonneg h0 (by omega), Int.ediv_le_self _ h0, ?_, Int.ediv_le_self _ (by omega)⟩
  exact Int.le_ediv_of_mul_le (by omega) (by omega)
theorem vFMake : cFMake.Valid (cx [] []) I24 := by
  refine re (Ctr.valid_run resp24 (glIn _ _) (allOf (.cons vGcd (.cons vFit .nil))) (by decide) (by decide) (by kernel_rfl) rfl sFMake [.i, .i] [.i, .i] (by decide) ?_)
  intro ρ0 hρ hpre _
  obtain ⟨a, b, rfl⟩ := two_ii hρ
  have hp := hpre
  simp only [cFMake, le', List.cons_append, List.nil_append, holds_cons_iff, E.den, BiO.den, List.getD_cons_zero, List.getD_cons_succ, decide_eq_true_eq] at hp
  obtain ⟨a0, a1, b0, b1, _⟩ := hp
  refine ⟨[{ i := frN a b }, { i := frD a b }], Runs.step rfl hpre ?_, rfl⟩
  simp only [StOk, E.den, BiO.den, UnO.den, TeO.den, I24, List.map_cons, List.map_nil, List.getD_cons_zero, List.getD_cons_succ, decide_eq_true_eq, decide_eq_false_iff_not, Bool.not_eq_true', Bool.not_eq_false', beq_iff_eq, beq_eq_false_iff_ne, holds_cons_iff, holds_nil_iff, if_true, Bool.false_eq_true, if_false]
  have pos (h : 0 ≤ a) : (frN a b : Int) = IntKind.wrap .u64 (a.tdiv (gF a b)) ∧ frD a b = IntKind.wrap .u64 (b.tdiv (gF a b)) := by
    have hf := fr_in b0 h
    exact ⟨by rw [w64u (by omega) (by omega)]; rfl, by rw [w64u (by omega) (by omega)]; rfl⟩
  refine ⟨fun h => ?_, fun h => ⟨fun h0 => ?_, fun h0 => ?_⟩⟩
  · rw [neg_fore (by omega) h]
    have hf := fr_in b0 (show 0 ≤ -a by omega)
    have hg := gF_pos (a := -a) b0
    rw [w64u (x := (-a).tdiv (gF (-a) b)) (by omega) (by omega), w64u (x := b.tdiv (gF (-a) b)) (by omega) (by omega)]
    refine ⟨⟨by omega, trivial⟩, fun _ => ⟨⟨by omega, by omega, by omega, by omega, by omega, trivial⟩, fun _ => ?_⟩⟩
    rw [← frN, ← frD, frN_neg, frD_neg, Int.zero_sub, Int.neg_neg]
  · have hf := fr_in b0 (show 0 ≤ a by omega)
    have hg := gF_pos (a := a) b0
    obtain ⟨e1, e2⟩ := pos (by omega)
    rw [← e1, ← e2]
    refine ⟨⟨by omega, by omega, ?_, ?_, ?_, trivial⟩, fun _ => rfl⟩
    · show a.tdiv (gF a b) ≤ _; omega
    · show 1 ≤ b.tdiv (gF a b); omega
    · show b.tdiv (gF a b) ≤ _; omega
  · have hf := fr_in b0 (show 0 ≤ a by omega)
    have hg := gF_pos (a := a) b0
    obtain ⟨e1, e2⟩ := pos (by omega)
    rw [← e1, ← e2]
    refine ⟨⟨by omega, by omega, ?_, ?_, ?_, trivial⟩, fun _ => rfl⟩
    · show a.tdiv (gF a b) ≤ _; omega
    · show 1 ≤ b.tdiv (gF a b); omega
    · show b.tdiv (gF a b) ≤ _; omega
end Go.Proofs.YtnpadkajapialaaDoor
