/- Chapter 25: MitchellWrong. -/
import Derived.Test.YtbknfmmoniammaaC25Ze
namespace Go.Proofs.Ytbknfmmoniammaa
open Go Go.Sx Go.Proofs.C25

theorem one_ll {ρ0 : List U} (h : ρ0 = normU [.l] ρ0) : ∃ a : List (List Int), ρ0 = [{ l := a }] := ⟨_, h⟩
theorem vRowsN : cRowsN.Valid (cx [] [32]) I25 := by
  refine Ctr.valid_run resp25 (glIn _ _) (fun c hc => by cases hc) (by decide) (by decide) (by kernel_rfl) rfl sRowsN [.l] [.b] (by decide) ?_
  intro ρ0 hρ hpre _
  obtain ⟨a, rfl⟩ := one_ll hρ
  have hp := hpre
  simp only [cRowsN, holds_cons_iff, E.den, BiO.den, UnO.den, List.getD_cons_zero, beq_iff_eq] at hp
  refine ⟨[{ b := true }], Runs.step rfl hpre ?_, rfl⟩
  show Runs _ _ _ 1 [{ l := a }] _
  refine Runs.step rfl ?_ rfl
  simp only [tmsRowsN, List.map_cons, List.getD_cons_zero, List.getD_cons_succ, holds_cons_iff, E.den, BiO.den, UnO.den, beq_iff_eq]
  exact ⟨hp.1, Holds.nil⟩
theorem eleven_m {ρ0 : List U} (h : ρ0 = normU [.i, .i, .i, .i, .i, .l, .i, .i, .i, .i, .i] ρ0) : ∃ (a b c d e : Int) (m : List (List Int)) (a' b' c' d' e' : Int), ρ0 = [{ i := a }, { i := b }, { i := c }, { i := d }, { i := e }, { l := m }, { i := a' }, { i := b' }, { i := c' }, { i := d' }, { i := e' }] := ⟨_, _, _, _, _, _, _, _, _, _, _, h⟩
theorem vSameN : cSameN.Valid (cx [] []) I25 := by
  refine re (Ctr.valid_run resp25 (glIn _ _) (allOf (.cons (re vRowsN) .nil)) (by decide) (by decide) (by kernel_rfl) rfl sSameN [.i, .i, .i, .i, .i, .l, .i, .i, .i, .i, .i] [.b] (by decide) ?_)
  intro ρ0 hρ hpre _
  obtain ⟨a, b, c, d, e, m, a', b', c', d', e', rfl⟩ := eleven_m hρ
  exact ⟨[{ b := true }], Runs.step rfl hpre rfl, rfl⟩

theorem make_bad {t r k e : Int} (h : makeE t r k = e) (he : e ≠ 0) : (∀ j, makeF j t r k = 0) ∧ makeR t r k = [] :=
  ⟨fun j => by unfold makeF; rw [if_pos (by rw [h]; exact he)], makeR_no (by rw [h]; exact he)⟩
theorem rover_bad {t r e : Int} (h : roverE t r = e) (he : e ≠ 0) : (∀ j, roverF j t r = 0) ∧ roverR t r = [] :=
  ⟨fun j => by unfold roverF; rw [if_pos (by rw [h]; exact he)], by unfold roverR; rw [if_pos (by rw [h]; exact he)]⟩
theorem far_E {t r k : Int} (h : t < 2 ∨ 24 < t ∨ k < 1 ∨ 3 < k) : makeE t r k = 2 := by
  rw [makeE_way (by rw [(way_far h).1]; decide), (way_far h).1]

theorem full_max {T K N : Nat} {r : List Int} (hr : r ∈ fullR T K N) (hT : 2 ≤ T) : 1 ≤ r.getD 2 0 ∧ r.getD 2 0 ≤ 2 * T + 1 ∧ 1 ≤ r.getD 3 0 ∧ r.getD 3 0 ≤ 2 * T := by
  obtain ⟨a, j, _, hj, _, _, _, h3, _, h2⟩ := fullR_mem hr
  have := pairM_lt (T := T) (K := if K = 0 then 1 else K) (r := a) (j := j) (by omega)
  omega
theorem far_pair {T K N : Nat} {p : Int} (hT : 2 ≤ T) (hp : p < 1 ∨ 2 * (T : Int) + 1 < p) : lessE (fullR T K N) p = 6 ∧ lessR (fullR T K N) p = [] ∧ whereR (fullR T K N) 0 p = [] := by
  have hn : hasP (fullR T K N) p = false := by
    rw [hasP_pairs, ← Bool.not_eq_true, List.contains_iff_mem, mem_pairs]
    rintro ⟨h1, r, hr, h⟩
    have := full_max hr hT
    omega
  refine ⟨by unfold lessE; rw [hn]; rfl, by unfold lessR; rw [hn]; rfl, ?_⟩
  unfold whereR
  rw [List.find?_eq_none.2]
  · rfl
  · intro r hr
    have := full_max hr hT
    simp only [Bool.and_eq_true, Bool.or_eq_true, decide_eq_true_eq, beq_iff_eq]
    omega

section
variable {n kd : Int} {T K N : Nat} {out : List U}
def wrongRho (n kd : Int) (T K N : Nat) (i : Int) : List U :=
  [{ i := n }, { i := kd }, { i := (T : Int) }, { i := (N : Int) }, { i := (T : Int) }, { i := (copies K : Int) }, { i := 2 }, { l := fullR T K N }, { i := 2 }, { i := 6 }, { i := 6 }, { i := 0 }, { i := 0 }, { i := 0 }, { i := 0 }, { i := 0 }, { l := [] }, { i := 0 }, { i := 0 }, { i := 0 }, { i := 0 }, { i := 0 }, { l := [] }, { i := 0 }, { i := 0 }, { i := 0 }, { i := 0 }, { i := 0 }, { l := [] }, { i := 2 }, { i := 0 }, { i := 0 }, { i := 0 }, { i := 0 }, { i := 0 }, { l := [] }, { i := i }]
theorem wrong_pre (k0 : 0 ≤ kd) (k1 : kd ≤ 255) (n0 : -9223372036854775808 ≤ n) (n1 : n ≤ 9223372036854775807) {i : Int} (i0 : 0 ≤ i) (i4 : i ≤ 4) : Holds I25 (wrongRho n kd T K N i) ((tmsLWrong.map Tm.pre).getD 1 []) := by
  simp only [tmsLWrong, wrongRho, List.map_cons, List.getD_cons_zero, List.getD_cons_succ, holds_cons_iff, E.den, BiO.den, decide_eq_true_eq]
  (repeat' refine And.intro ?_ ?_) <;> first | exact Holds.nil | omega | trivial

theorem rWrong4 (hk : KindOk T K) (_ : 1 ≤ N) (hN : N ≤ mostN T K) (k0 : 0 ≤ kd) (k1 : kd ≤ 255) (n0 : -9223372036854775808 ≤ n) (n1 : n ≤ 9223372036854775807) :
    Runs I25 (tmsLWrong.map Tm.pre) ssLWrong 1 (wrongRho n kd T K N 4) [{ b := true }] := by
  have t2 := hk.t2
  have t24 := hk.t24
  have hl := fullR_small hk hN
  have hkd := tmod_small k0 (show (0 : Int) < 2 by omega)
  have e2 : (T : Int).tmod 2 = ((T % 2 : Nat) : Int) := by rw [Int.tmod_eq_emod_of_nonneg (by omega)]; rfl
  have hw3 : IntKind.wrap .i64 (IntKind.wrap .i64 (2 * (T : Int)) + 1) = 2 * (T : Int) + 1 := by rw [w64 (x := 2 * (T : Int)) (by omega) (by omega)]; exact w64 (by omega) (by omega)
  have facts : ∀ k : Int, 1 ≤ k → k ≤ 3 → ((k = 1) ↔ ((T : Int).tmod 2 = 1)) → wayE T k = 0 ∧ makeE T (if IntKind.wrap .i64 (mostV T k + 1) > n then IntKind.wrap .i64 (mostV T k + 1) else n) k = 5 ∧ makeE T (if 0 < n then 0 else n) k = 2 := by
    intro k q1 q3 hq
    have hw := way_yes (t := (T : Int)) (by omega) (by omega) q1 q3 hq
    have hm : 1 ≤ mostV T k ∧ mostV T k ≤ 24 := by rw [hw.2]; split <;> omega
    rw [w64 (x := mostV T k + 1) (by omega) (by omega)]
    exact ⟨hw.1, makeE_more hw.1 (by split <;> omega) (by split <;> omega), makeE_less hw.1 (by split <;> omega)⟩
  have fp := fun (p : Int) (hp : p < 1 ∨ 2 * (T : Int) + 1 < p) => far_pair (K := K) (N := N) t2 hp
  refine Runs.step rfl (wrong_pre k0 k1 n0 n1 (by decide) (by decide)) ?_
  simp only [StOk, E.den, BiO.den, UnO.den, TeO.den, I25, wrongRho, List.map_cons, List.map_nil, List.getD_cons_zero, List.getD_cons_succ, hw3, e2, decide_eq_true_eq, decide_eq_false_iff_not, holds_cons_iff, holds_nil_iff, Bool.not_eq_true', Bool.not_eq_false', beq_iff_eq, beq_eq_false_iff_ne]
  have tail (p : Int) (hp : p < 1 ∨ 2 * (T : Int) + 1 < p) : lessE (fullR T K N) p = 6 ∧ lessR (fullR T K N) p = [] ∧ whereR (fullR T K N) 0 p = [] := fp p hp
  refine ⟨fun q => by omega, fun _ => ⟨fun q => (q rfl).elim, fun _ => ⟨fun q => (q rfl).elim, fun _ => ⟨fun q => (q rfl).elim, fun _ => ⟨fun q => (q rfl).elim, fun _ => ⟨fun ev => ?_, fun od => ?_⟩⟩⟩⟩⟩⟩
  · obtain ⟨f1, f2, f3⟩ := facts (kd.tmod 2 + 2) (by omega) (by omega) (by rw [e2]; omega)
    rw [f1, f2, f3]
    refine ⟨fun q => (q rfl).elim, fun _ => ⟨fun q => (q rfl).elim, fun _ => ⟨fun q => (q rfl).elim, fun _ => ⟨fun b1 => ⟨fun b2 => ?_, fun b2 => ?_⟩, fun b1 => ?_⟩⟩⟩⟩
    · rw [w64 (x := n + (2 * (T : Int) + 1)) (by omega) (by omega)]
      obtain ⟨g1, g2, g3⟩ := tail (n + (2 * (T : Int) + 1)) (by omega)
      rw [g1, g2, g3]
      exact ⟨⟨by omega, trivial⟩, fun _ => ⟨fun _ => ⟨⟨rfl, rfl, rfl, rfl, rfl, rfl, trivial⟩, fun _ => ⟨fun _ => rfl, fun q => (q (by decide)).elim⟩⟩, fun q => (q rfl).elim⟩⟩
    · obtain ⟨g1, g2, g3⟩ := tail n (by omega)
      rw [g1, g2, g3]
      exact ⟨⟨by omega, trivial⟩, fun _ => ⟨fun _ => ⟨⟨rfl, rfl, rfl, rfl, rfl, rfl, trivial⟩, fun _ => ⟨fun _ => rfl, fun q => (q (by decide)).elim⟩⟩, fun q => (q rfl).elim⟩⟩
    · obtain ⟨g1, g2, g3⟩ := tail n (by omega)
      rw [g1, g2, g3]
      exact ⟨⟨by omega, trivial⟩, fun _ => ⟨fun _ => ⟨⟨rfl, rfl, rfl, rfl, rfl, rfl, trivial⟩, fun _ => ⟨fun _ => rfl, fun q => (q (by decide)).elim⟩⟩, fun q => (q rfl).elim⟩⟩
  · obtain ⟨f1, f2, f3⟩ := facts 1 (by omega) (by omega) (by rw [e2]; omega)
    rw [f1, f2, f3]
    refine ⟨fun q => (q rfl).elim, fun _ => ⟨fun q => (q rfl).elim, fun _ => ⟨fun q => (q rfl).elim, fun _ => ⟨fun b1 => ⟨fun b2 => ?_, fun b2 => ?_⟩, fun b1 => ?_⟩⟩⟩⟩
    · rw [w64 (x := n + (2 * (T : Int) + 1)) (by omega) (by omega)]
      obtain ⟨g1, g2, g3⟩ := tail (n + (2 * (T : Int) + 1)) (by omega)
      rw [g1, g2, g3]
      exact ⟨⟨by omega, trivial⟩, fun _ => ⟨fun _ => ⟨⟨rfl, rfl, rfl, rfl, rfl, rfl, trivial⟩, fun _ => ⟨fun _ => rfl, fun q => (q (by decide)).elim⟩⟩, fun q => (q rfl).elim⟩⟩
    · obtain ⟨g1, g2, g3⟩ := tail n (by omega)
      rw [g1, g2, g3]
      exact ⟨⟨by omega, trivial⟩, fun _ => ⟨fun _ => ⟨⟨rfl, rfl, rfl, rfl, rfl, rfl, trivial⟩, fun _ => ⟨fun _ => rfl, fun q => (q (by decide)).elim⟩⟩, fun q => (q rfl).elim⟩⟩
    · obtain ⟨g1, g2, g3⟩ := tail n (by omega)
      rw [g1, g2, g3]
      exact ⟨⟨by omega, trivial⟩, fun _ => ⟨fun _ => ⟨⟨rfl, rfl, rfl, rfl, rfl, rfl, trivial⟩, fun _ => ⟨fun _ => rfl, fun q => (q (by decide)).elim⟩⟩, fun q => (q rfl).elim⟩⟩

theorem rWrong_step (k0 : 0 ≤ kd) (k1 : kd ≤ 255) (n0 : -9223372036854775808 ≤ n) (n1 : n ≤ 9223372036854775807) {i : Nat} (hi : i < 4) (h : Runs I25 (tmsLWrong.map Tm.pre) ssLWrong 1 (wrongRho n kd T K N ((i : Int) + 1)) out) :
    Runs I25 (tmsLWrong.map Tm.pre) ssLWrong 1 (wrongRho n kd T K N i) out := by
  refine Runs.step rfl (wrong_pre k0 k1 n0 n1 (by omega) (by omega)) ?_
  refine br_t ?_ ?_
  · simp only [wrongRho, E.den, BiO.den, List.getD_cons_zero, List.getD_cons_succ, decide_eq_true_eq]; omega
  unfold wrongRho at h
  simp only [StOk, E.den, BiO.den, UnO.den, I25, wrongRho, List.map_cons, List.map_nil, List.getD_cons_zero, List.getD_cons_succ, holds_cons_iff, holds_nil_iff, beq_iff_eq, beq_eq_false_iff_ne, List.length_nil]
  refine ⟨fun _ => ⟨⟨rfl, trivial, trivial, trivial, trivial, trivial, trivial⟩, fun _ => h⟩, fun q0 => ⟨fun _ => ⟨⟨rfl, trivial, trivial, trivial, trivial, trivial, trivial⟩, fun _ => h⟩, fun q1 => ⟨fun _ => ⟨⟨rfl, trivial, trivial, trivial, trivial, trivial, trivial⟩, fun _ => h⟩, fun q2 => ⟨fun _ => ⟨⟨rfl, trivial, trivial, trivial, trivial, trivial, trivial⟩, fun _ => h⟩, fun q3 => by omega⟩⟩⟩⟩
theorem rWrong (hk : KindOk T K) (h1 : 1 ≤ N) (hN : N ≤ mostN T K) (k0 : 0 ≤ kd) (k1 : kd ≤ 255) (n0 : -9223372036854775808 ≤ n) (n1 : n ≤ 9223372036854775807) :
    Runs I25 (tmsLWrong.map Tm.pre) ssLWrong 1 (wrongRho n kd T K N 0) [{ b := true }] :=
  rWrong_step (i := 0) k0 k1 n0 n1 (by decide) (rWrong_step (i := 1) k0 k1 n0 n1 (by decide) (rWrong_step (i := 2) k0 k1 n0 n1 (by decide) (rWrong_step (i := 3) k0 k1 n0 n1 (by decide) (rWrong4 hk h1 hN k0 k1 n0 n1))))
end

theorem vLWrong1 : cLWrong.Valid (cx [cMade, cMake, cRover, cMost, cWithout, cWhere, cSameN, cAw] [8]) I25 := by
  refine Ctr.valid_run resp25 (glIn _ _) (allOf (.cons vMade (.cons vMake (.cons vRover (.cons vMost (.cons vWithout (.cons vWhere (.cons vSameN (.cons vAw .nil))))))))) (by decide) (by decide) (by kernel_rfl) rfl sLWrong [.i, .i, .i, .i] [.b] (by decide) ?_
  intro ρ0 hρ hpre _
  obtain ⟨n, a, b, c, rfl⟩ := four_iiii hρ
  have hp := hpre
  simp only [cLWrong, le', List.cons_append, List.nil_append, holds_cons_iff, E.den, BiO.den, List.getD_cons_zero, List.getD_cons_succ, decide_eq_true_eq] at hp
  obtain ⟨n0, n1, a0, a1, b0, b1, c0, c1, _⟩ := hp
  obtain ⟨T, K, N, hm⟩ := made_ok a0 b0 c0
  have t2 := hm.kind.t2
  have t24 := hm.kind.t24
  have go := rWrong (n := n) (kd := c) hm.kind hm.n1 hm.nm c0 c1 n0 n1
  unfold wrongRho at go
  refine ⟨[{ b := true }], Runs.step rfl hpre ?_, rfl⟩
  have h252 := tmod_small c0 (show (0 : Int) < 252 by omega)
  have h2 := tmod_small c0 (show (0 : Int) < 2 by omega)
  have e2 : (T : Int).tmod 2 = ((T % 2 : Nat) : Int) := by rw [Int.tmod_eq_emod_of_nonneg (by omega)]; rfl
  have e4 : (T : Int).tmod 4 = ((T % 4 : Nat) : Int) := by rw [Int.tmod_eq_emod_of_nonneg (by omega)]; rfl
  have E2 : makeE T 1 (c.tmod 252 + 4) = 2 := far_E (by omega)
  have E3 : ∀ k : Int, 1 ≤ k → k ≤ 3 → ¬ ((k = 1) ↔ ((T : Int).tmod 2 = 1)) → makeE T 1 k = 6 := fun k q1 q3 hq => by
    have := (way_no (t := (T : Int)) (by omega) (by omega) q1 q3 hq).1
    rw [makeE_way (by rw [this]; decide), this]
  have E4 : roverE (3 * (2 * (T : Int).tmod 4 + 1)) 1 = 6 := by
    rw [e4]
    unfold roverE
    rw [if_pos]
    refine ⟨(way_yes (by omega) (by omega) (by omega) (by omega) ?_).1, ?_⟩
    · rw [Int.tmod_eq_emod_of_nonneg (by omega)]; omega
    · rw [Int.tmod_eq_emod_of_nonneg (by omega)]; omega
  obtain ⟨B2, C2⟩ := make_bad E2 (by decide)
  obtain ⟨B4, C4⟩ := rover_bad E4 (by decide)
  simp only [StOk, E.den, BiO.den, I25, List.map_cons, List.map_nil, List.getD_cons_zero, List.getD_cons_succ, hm.f0, hm.f1, hm.f2, hm.f3, hm.f4, hm.r, e2, E2, E4, B2, C2, B4, C4, decide_eq_true_eq, decide_eq_false_iff_not, beq_iff_eq, beq_eq_false_iff_ne]
  have main : ∀ far k : Int, (far < 2 ∨ 24 < far) → (1 ≤ k) → k ≤ 3 → ¬ ((k = 1) ↔ ((T : Int).tmod 2 = 1)) →
      makeE far 1 (c.tmod 3 + 1) = 2 ∧ (∀ j, makeF j far 1 (c.tmod 3 + 1) = 0) ∧ makeR far 1 (c.tmod 3 + 1) = [] ∧ makeE T 1 k = 6 ∧ (∀ j, makeF j T 1 k = 0) ∧ makeR T 1 k = [] := by
    intro far k hf q1 q3 hq
    have E1 : makeE far 1 (c.tmod 3 + 1) = 2 := far_E (by omega)
    obtain ⟨B1, C1⟩ := make_bad E1 (by decide)
    have E3' := E3 k q1 q3 hq
    obtain ⟨B3, C3⟩ := make_bad E3' (by decide)
    exact ⟨E1, B1, C1, E3', B3, C3⟩
  refine ⟨fun x1 => ⟨fun x2 => ⟨fun od => ?_, fun od => ?_⟩, fun x2 => ⟨fun od => ?_, fun od => ?_⟩⟩, fun x1 => ⟨fun od => ?_, fun od => ?_⟩⟩
  · obtain ⟨y1, y2, y3, y4, y5, y6⟩ := main (n + 24) (c.tmod 2 + 2) (by omega) (by omega) (by omega) (by rw [e2]; omega)
    simp only [y1, y2, y3, y4, y5, y6]; exact go
  · obtain ⟨y1, y2, y3, y4, y5, y6⟩ := main (n + 24) 1 (by omega) (by omega) (by omega) (by rw [e2]; omega)
    simp only [y1, y2, y3, y4, y5, y6]; exact go
  · obtain ⟨y1, y2, y3, y4, y5, y6⟩ := main n (c.tmod 2 + 2) (by omega) (by omega) (by omega) (by rw [e2]; omega)
    simp only [y1, y2, y3, y4, y5, y6]; exact go
  · obtain ⟨y1, y2, y3, y4, y5, y6⟩ := main n 1 (by omega) (by omega) (by omega) (by rw [e2]; omega)
    simp only [y1, y2, y3, y4, y5, y6]; exact go
  · obtain ⟨y1, y2, y3, y4, y5, y6⟩ := main n (c.tmod 2 + 2) (by omega) (by omega) (by omega) (by rw [e2]; omega)
    simp only [y1, y2, y3, y4, y5, y6]; exact go
  · obtain ⟨y1, y2, y3, y4, y5, y6⟩ := main n 1 (by omega) (by omega) (by omega) (by rw [e2]; omega)
    simp only [y1, y2, y3, y4, y5, y6]; exact go
theorem vLWrong : ({ cLWrong with outs := [], res := .bool (.bl true) } : Ctr).Valid (cx [cMade, cMake, cRover, cMost, cWithout, cWhere, cSameN, cAw] [8]) I25 := vLWrong1.said resp25 rfl rfl (by decide)
end Go.Proofs.Ytbknfmmoniammaa
