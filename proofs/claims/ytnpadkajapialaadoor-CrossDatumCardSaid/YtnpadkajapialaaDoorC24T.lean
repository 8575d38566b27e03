/- Chapter 24: CrossTurned, CrossDatum. -/
import Derived.Test.YtnpadkajapialaaDoorC24R
namespace Go.Proofs.YtnpadkajapialaaDoor
open Go Go.Sx Go.Proofs.C24

theorem two_l8 {ρ0 : List U} (h : ρ0 = normU [.l, .i] ρ0) : ∃ (a : List (List Int)) (b : Int), ρ0 = [{ l := a }, { i := b }] := ⟨_, _, h⟩
def turnR (r : List Int) : List Int := [-(r.getD 0 0), r.getD 1 0]
theorem crossI_neg (l : List Int) : crossI (negI l) = (crossI l).map turnR := by
  unfold crossI
  rw [errI_neg, negI_len]
  split
  · rfl
  · unfold negI
    rw [List.map_map, List.map_map]
    apply List.map_congr_left
    intro s _
    have := crossS_neg l s
    unfold negI at this
    show [frN (crossS (l.map fun s => -s) (-s)) _, frD (crossS (l.map fun s => -s) (-s)) _] = turnR [frN (crossS l s) _, frD (crossS l s) _]
    rw [this, frN_neg, frD_neg]
    rfl
theorem plainI_neg (l : List Int) : plainI (negI l) = (plainI l).map turnR := by
  unfold plainI
  rw [errI_neg, negI_len, negI_sum]
  split
  · rfl
  · unfold negI
    rw [List.map_map, List.map_map]
    apply List.map_congr_left
    intro s _
    show [frN (-s * l.length - -l.sum) _, frD (-s * l.length - -l.sum) _] = turnR [frN (s * l.length - l.sum) _, frD (s * l.length - l.sum) _]
    rw [show -s * (l.length : Int) - -l.sum = -(s * l.length - l.sum) from by rw [Int.neg_mul]; omega, frN_neg, frD_neg]
    rfl
theorem butI_neg (l : List Int) (d : Int) : butI (negI l) d = negI (butI l d) := by
  unfold butI
  rw [datE_neg, datV_neg]
  split
  · rfl
  · unfold negI
    rw [List.map_map, List.map_map]
    apply List.map_congr_left
    intro s _
    show impN (-s - -datV l d) = -impN (s - datV l d)
    rw [show -s - -datV l d = -(s - datV l d) from by omega, impN_neg]
theorem crossI_len {l : List Int} (h : errI l = 0) : (crossI l).length = l.length := by unfold crossI; rw [if_neg (fun q => q h), List.length_map]
theorem plainI_len {l : List Int} (h : errI l = 0) : (plainI l).length = l.length := by unfold plainI; rw [if_neg (fun q => q h), List.length_map]
theorem butI_len {l : List Int} {d : Int} (h : datE l d = 0) : (butI l d).length = l.length := by unfold butI; rw [if_neg (fun q => q h), List.length_map]
theorem fr_bound {a b : Int} (h : 1 ≤ b) : -(if a < 0 then -a else a) ≤ frN a b ∧ frN a b ≤ (if a < 0 then -a else a) := by
  by_cases h0 : a < 0
  · have h1 := fr_in h (show 0 ≤ -a by omega)
    have e : frN (-a) b = -frN a b := frN_neg a b
    have e2 : frN (-a) b = (-a).tdiv (gF (-a) b) := rfl
    rw [if_pos h0]
    omega
  · have h1 := fr_in h (show 0 ≤ a by omega)
    have e2 : frN a b = a.tdiv (gF a b) := rfl
    rw [if_neg h0]
    omega
theorem crossI_in {l : List Int} (h : errI l = 0) {r : List Int} (hr : r ∈ crossI l) : -1000 ≤ r.getD 0 0 ∧ r.getD 0 0 ≤ 1000 := by
  obtain ⟨h24, _⟩ := errI_0 h
  unfold crossI at hr
  rw [if_neg (fun q => q h)] at hr
  obtain ⟨s, _, rfl⟩ := List.mem_map.1 hr
  have h1 := crossS_in s l
  have h2 := fr_bound (a := crossS l s) (b := if 1 > (l.length : Int) - 1 then 1 else (l.length : Int) - 1) (by split <;> omega)
  show -1000 ≤ frN _ _ ∧ frN _ _ ≤ 1000
  split at h2 <;> omega
theorem plainI_in {l : List Int} (h : errI l = 0) {r : List Int} (hr : r ∈ plainI l) : -1000000 ≤ r.getD 0 0 ∧ r.getD 0 0 ≤ 1000000 := by
  obtain ⟨h24, hin⟩ := errI_0 h
  unfold plainI at hr
  rw [if_neg (fun q => q h)] at hr
  obtain ⟨s, hs, rfl⟩ := List.mem_map.1 hr
  have h0 : 1 ≤ l.length := List.length_pos_of_mem hs
  have hsi := hin s hs
  have hsum := sum_in l hin
  have hsl : -(7600 * 24) ≤ s * (l.length : Int) ∧ s * (l.length : Int) ≤ 7600 * 24 := by
    constructor
    · have : -7600 * (l.length : Int) ≤ s * l.length := Int.mul_le_mul_of_nonneg_right hsi.1 (by omega)
      omega
    · have : s * (l.length : Int) ≤ 7600 * l.length := Int.mul_le_mul_of_nonneg_right hsi.2 (by omega)
      omega
  have h2 := fr_bound (a := s * l.length - l.sum) (b := (l.length : Int)) (by omega)
  show -1000000 ≤ frN _ _ ∧ frN _ _ ≤ 1000000
  split at h2 <;> omega
theorem butI_in {l : List Int} {d x : Int} (hx : x ∈ butI l d) : -24 ≤ x ∧ x ≤ 24 := by
  unfold butI at hx
  split at hx
  · cases hx
  · obtain ⟨s, _, rfl⟩ := List.mem_map.1 hx
    exact impN_in _
theorem map_getD {f : List Int → List Int} {l : List (List Int)} {i : Nat} (h : i < l.length) : (l.map f).getD i [] = f (l.getD i []) := by
  simp [List.getD_eq_getElem?_getD, h]
theorem getR_in {l : List (List Int)} {i : Nat} (h : i < l.length) : l.getD i [] ∈ l := by
  rw [List.getD_eq_getElem?_getD, List.getElem?_eq_getElem h]; exact List.getElem_mem _
theorem negI_get {l : List Int} {i : Nat} : (negI l).getD i 0 = -(l.getD i 0) := by
  unfold negI
  simp only [List.getD_eq_getElem?_getD, List.getElem?_map]
  cases l[i]? <;> rfl

theorem rLTurned2 {l : List (List Int)} {k : Int} (hel : (l.all fun r => r.all fun x => decide ((-32768 : Int) ≤ x) && decide (x ≤ 32767)) = true) (hE : errI (scoresI (nums l)) = 0) (hd : datE (scoresI (nums l)) k = 0) : ∀ f i : Nat, i + f = (scoresI (nums l)).length →
    Runs I24 (tmsLTurned.map Tm.pre) ssLTurned 2 [{ l := l }, { l := crossI (negI (scoresI (nums l))) }, { l := plainI (negI (scoresI (nums l))) }, { l := ones (butI (scoresI (nums l)) k) }, { l := ones (butI (negI (scoresI (nums l))) k) }, { i := (i : Int) }] [{ b := true }]
  | f, i, hf => by
    have next := fun (h : i < (scoresI (nums l)).length) => (match f, hf with | 0, hf => absurd hf (by omega) | f + 1, hf => rLTurned2 hel hE hd f (i + 1) (by omega) : Runs I24 (tmsLTurned.map Tm.pre) ssLTurned 2 [{ l := l }, { l := crossI (negI (scoresI (nums l))) }, { l := plainI (negI (scoresI (nums l))) }, { l := ones (butI (scoresI (nums l)) k) }, { l := ones (butI (negI (scoresI (nums l))) k) }, { i := ((i + 1 : Nat) : Int) }] [{ b := true }])
    have hl24 := scoresI_len (nums l)
    have c1 := crossI_len hE
    have c2 : (crossI (negI (scoresI (nums l)))).length = (scoresI (nums l)).length := by rw [crossI_neg, List.length_map, c1]
    have p1 := plainI_len hE
    have p2 : (plainI (negI (scoresI (nums l)))).length = (scoresI (nums l)).length := by rw [plainI_neg, List.length_map, p1]
    have b1 := butI_len hd
    have b2 : (butI (negI (scoresI (nums l))) k).length = (scoresI (nums l)).length := by rw [butI_neg, negI_len, b1]
    have hE' := hE
    generalize hS : scoresI (nums l) = S at *
    refine Runs.step rfl ?_ ?_
    · simp only [tmsLTurned, List.map_cons, List.getD_cons_zero, List.getD_cons_succ, holds_cons_iff, E.den, BiO.den, UnO.den, TeO.den, I24, beq_iff_eq, hS, ones_len, nums_ones]
      exact ⟨by omega, by omega, by omega, by omega, by omega, hE, hel, Holds.nil⟩
    by_cases hi : i < S.length
    · have wi : IntKind.wrap .i64 ((i : Int) + 1) = ((i + 1 : Nat) : Int) := by rw [w64 (by omega) (by omega)]; omega
      have hx := crossI_in hE (getR_in (l := crossI S) (i := i) (by omega))
      have hy := plainI_in hE (getR_in (l := plainI S) (i := i) (by omega))
      have hz := butI_in (get_in (l := butI S k) (i := i) (by omega))
      have e1 : (crossI (negI S)).getD i [] = turnR ((crossI S).getD i []) := by rw [crossI_neg]; exact map_getD (by omega)
      have e2 : (plainI (negI S)).getD i [] = turnR ((plainI S).getD i []) := by rw [plainI_neg]; exact map_getD (by omega)
      have e3 : (butI (negI S) k).getD i 0 = -((butI S k).getD i 0) := by rw [butI_neg]; exact negI_get
      have t0 (r : List Int) : (turnR r).getD 0 0 = -(r.getD 0 0) := rfl
      have t1 (r : List Int) : (turnR r).getD 1 0 = r.getD 1 0 := rfl
      have w1 : IntKind.wrap .i64 (0 - -(((crossI S).getD i []).getD 0 0)) = ((crossI S).getD i []).getD 0 0 := by rw [w64 (by omega) (by omega)]; omega
      have w2 : IntKind.wrap .i64 (0 - -(((plainI S).getD i []).getD 0 0)) = ((plainI S).getD i []).getD 0 0 := by rw [w64 (by omega) (by omega)]; omega
      have w3 : IntKind.wrap .i64 (0 - -((butI S k).getD i 0)) = (butI S k).getD i 0 := by rw [w64 (by omega) (by omega)]; omega
      refine br_t ?_ ?_
      · simp only [E.den, BiO.den, UnO.den, I24, List.getD_cons_zero, List.getD_cons_succ, decide_eq_true_eq, hS, ones_len]; omega
      simp only [StOk, E.den, BiO.den, UnO.den, TeO.den, I24, List.map_cons, List.map_nil, List.getD_cons_zero, List.getD_cons_succ, hS, nums_ones, Int.toNat_natCast, Int.toNat_zero, show Int.toNat 1 = 1 from rfl, get_ones, e1, e2, e3, t0, t1, w1, w2, w3, wi, beq_self_eq_true, Bool.and_self, Bool.not_true, Bool.false_eq_true, false_implies, true_and, holds_cons_iff, holds_nil_iff, decide_eq_true_eq, ones_len, true_implies]
      refine ⟨?_, fun _ => next (by omega)⟩
      (repeat' refine And.intro ?_ ?_) <;> first | omega | trivial
    · refine br_f ?_ rfl
      simp only [E.den, BiO.den, UnO.den, I24, List.getD_cons_zero, List.getD_cons_succ, decide_eq_false_iff_not, hS, ones_len]; omega

theorem rLTurned1 {l : List (List Int)} {at' : Int} (hel : (l.all fun r => r.all fun x => decide ((-32768 : Int) ≤ x) && decide (x ≤ 32767)) = true) (a0 : 0 ≤ at') (a1 : at' ≤ 255) (h0 : (scoresI (nums l)).length ≠ 0) : ∀ f i : Nat, i + f = (scoresI (nums l)).length →
    Runs I24 (tmsLTurned.map Tm.pre) ssLTurned 1 [{ l := l }, { i := at' }, { l := ones (negI ((scoresI (nums l)).take i)) }, { i := (i : Int) }] [{ b := true }]
  | f, i, hf => by
    have hl24 := scoresI_len (nums l)
    have herr := scoresI_err (nums l)
    have hin : ∀ x ∈ scoresI (nums l), -7600 ≤ x ∧ x ≤ 7600 := fun x hx => scoresI_in hx
    have next := fun (h : i < (scoresI (nums l)).length) => (match f, hf with | 0, hf => absurd hf (by omega) | f + 1, hf => rLTurned1 hel a0 a1 h0 f (i + 1) (by omega) : Runs I24 (tmsLTurned.map Tm.pre) ssLTurned 1 [{ l := l }, { i := at' }, { l := ones (negI ((scoresI (nums l)).take (i + 1))) }, { i := ((i + 1 : Nat) : Int) }] [{ b := true }])
    have fin2 := fun (k : Int) (hd : datE (scoresI (nums l)) k = 0) => rLTurned2 hel herr hd (scoresI (nums l)).length 0 (by omega)
    generalize hS : scoresI (nums l) = S at *
    have hol : (ones (negI (S.take i))).length = i := by rw [ones_len, negI_len, List.length_take]; omega
    refine Runs.step rfl ?_ ?_
    · simp only [tmsLTurned, List.map_cons, List.getD_cons_zero, List.getD_cons_succ, holds_cons_iff, E.den, BiO.den, UnO.den, TeO.den, I24, decide_eq_true_eq, Bool.not_eq_true', beq_eq_false_iff_ne, hS, ones_len]
      exact ⟨a0, by omega, hel, a1, Holds.nil⟩
    by_cases hi : i < S.length
    · have hx := hin (S.getD i 0) (get_in hi)
      have wi : IntKind.wrap .i64 ((i : Int) + 1) = ((i + 1 : Nat) : Int) := by rw [w64 (by omega) (by omega)]; omega
      have wx : IntKind.wrap .i64 (0 - S.getD i 0) = -(S.getD i 0) := by rw [w64 (by omega) (by omega)]; omega
      have hn := next hi
      rw [take_snocI hi] at hn
      have e : ones (negI (S.take i ++ [S.getD i 0])) = ones (negI (S.take i)) ++ [[-(S.getD i 0)]] := by unfold negI; rw [List.map_append, List.map_cons, List.map_nil, ones_snoc]
      rw [e] at hn
      refine br_t ?_ ?_
      · simp only [E.den, BiO.den, UnO.den, I24, List.getD_cons_zero, List.getD_cons_succ, decide_eq_true_eq, hS, ones_len]; omega
      simp only [StOk, E.den, BiO.den, UnO.den, TeO.den, I24, List.map_cons, List.map_nil, List.getD_cons_zero, List.getD_cons_succ, hS, Int.toNat_natCast, Int.toNat_zero, get_ones, wi, wx, holds_cons_iff, holds_nil_iff, decide_eq_true_eq, hol]
      exact ⟨⟨by omega, trivial⟩, fun _ => ⟨⟨by omega, trivial⟩, fun _ => hn⟩⟩
    · refine br_f ?_ ?_
      · simp only [E.den, BiO.den, UnO.den, I24, List.getD_cons_zero, List.getD_cons_succ, decide_eq_false_iff_not, hS, ones_len]; omega
      rw [List.take_of_length_le (by omega)]
      have hwl : IntKind.wrap .i64 ((S.length : Int) + 1) = (S.length : Int) + 1 := w64 (by omega) (by omega)
      have hdiv : ((S.length : Int) + 1).tdiv 2 = ((S.length : Int) + 1) / 2 := Int.tdiv_eq_ediv_of_nonneg (by omega)
      have hmod : 0 ≤ at'.tmod (((S.length : Int) + 1).tdiv 2) ∧ at'.tmod (((S.length : Int) + 1).tdiv 2) < ((S.length : Int) + 1).tdiv 2 := by
        rw [Int.tmod_eq_emod_of_nonneg a0]
        exact ⟨Int.emod_nonneg _ (by rw [hdiv]; omega), Int.emod_lt_of_pos _ (by rw [hdiv]; omega)⟩
      obtain ⟨k, hk⟩ : ∃ k, at'.tmod (((S.length : Int) + 1).tdiv 2) = k := ⟨_, rfl⟩
      rw [hk] at hmod
      have hd := datE_ok herr (d := k) hmod.1 hmod.2
      have hvin := datV_in (l := S) k
      have wv : IntKind.wrap .i64 (0 - -datV S k) = datV S k := by rw [w64 (by omega) (by omega)]; omega
      have c1 := crossI_len herr
      have c2 : (crossI (negI S)).length = S.length := by rw [crossI_neg, List.length_map, c1]
      have p1 := plainI_len herr
      have p2 : (plainI (negI S)).length = S.length := by rw [plainI_neg, List.length_map, p1]
      have b1 := butI_len hd
      have b2 : (butI (negI S) k).length = S.length := by rw [butI_neg, negI_len, b1]
      have en := errI_neg S
      have dn := datE_neg S k
      have vn := datV_neg S k
      rw [herr] at en
      rw [hd] at dn
      simp only [StOk, E.den, BiO.den, UnO.den, I24, List.map_cons, List.map_nil, List.getD_cons_zero, List.getD_cons_succ, hS, nums_ones, ones_len, hwl, hk, herr, en, hd, dn, vn, wv, c1, c2, p1, p2, b1, b2, negI_len, beq_self_eq_true, Bool.not_true, Bool.false_eq_true, false_implies, true_and, true_implies, holds_cons_iff, holds_nil_iff, decide_eq_true_eq, Bool.not_eq_true', beq_eq_false_iff_ne]
      refine ⟨⟨by rw [hdiv]; omega, trivial⟩, fun _ => ⟨⟨by omega, trivial⟩, fun _ => ⟨⟨by omega, trivial⟩, fun _ => ?_⟩⟩⟩
      exact fin2 k hd

theorem vLTurned1 : cLTurned.Valid (cx [cScores, cCross, cPlain, cButler, cDatum, cAw] [cLTurned.fn]) I24 := by
  refine Ctr.valid_run resp24 (glIn _ _) (allOf (.cons vScores (.cons vCross (.cons vPlain (.cons vButler (.cons vDatum (.cons vAw .nil))))))) (by decide) (by decide) (by kernel_rfl) rfl sLTurned [.l, .i] [.b] (by decide) ?_
  intro ρ0 hρ hpre _
  obtain ⟨l, a, rfl⟩ := two_l8 hρ
  have hp := hpre
  simp only [cLTurned, cLDatum, el16, le', List.cons_append, List.nil_append, holds_cons_iff, E.den, BiO.den, TeO.den, List.getD_cons_zero, List.getD_cons_succ, decide_eq_true_eq] at hp
  obtain ⟨hel, a0, a1, _⟩ := hp
  refine ⟨[{ b := true }], Runs.step rfl hpre ?_, rfl⟩
  simp only [StOk, E.den, BiO.den, UnO.den, I24, List.map_cons, List.map_nil, List.getD_cons_zero, List.getD_cons_succ, ones_len, beq_iff_eq, beq_eq_false_iff_ne]
  refine ⟨fun _ => trivial, fun h => ?_⟩
  exact rLTurned1 hel a0 a1 (by omega) (scoresI (nums l)).length 0 (by omega)
theorem vLTurned : ({ cLTurned with outs := [], res := .bool (.bl true) } : Ctr).Valid (cx [cScores, cCross, cPlain, cButler, cDatum, cAw] [cLTurned.fn]) I24 := vLTurned1.said resp24 rfl rfl (by decide)
end Go.Proofs.YtnpadkajapialaaDoor
