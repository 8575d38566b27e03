/- Chapter 25: MitchellBegins. -/
import Derived.Test.YtbknfmmoniammaaC25Zd
namespace Go.Proofs.Ytbknfmmoniammaa
open Go Go.Sx Go.Proofs.C25

theorem fullR_take {T K n N : Nat} (h : n ≤ N) : (fullR T K N).take (n * T) = fullR T K n := by
  obtain ⟨l, hl⟩ := fullR_split T K n (N - n)
  rw [show n + (N - n) = N from by omega] at hl
  rw [hl, ← fullR_len T K n, List.take_left']
  rw [fullR_len]
theorem roving_ok {T K N : Nat} (hk : KindOk T K) (h1 : 1 ≤ N) : hasN (srtAll (seats (fullR T K N))) (srtLen (seats (fullR T K N))).toNat (2 * (T : Int) + 1) = decide (K = 0) := by
  rw [has_srt]
  show (pairs (fullR T K N)).contains _ = _
  by_cases h0 : K = 0
  · rw [decide_eq_true h0, List.contains_iff_mem, mem_pairs]
    refine ⟨by omega, roverRow T (rowM T 1 0 0), ?_, Or.inl ?_⟩
    · unfold fullR; rw [if_pos h0]; exact List.mem_map_of_mem (rowM_in h1 (by have := hk.t2; omega))
    · unfold roverRow
      rw [rowM_0, rowM_1, if_pos (by simp)]
      rfl
  · rw [decide_eq_false h0, ← Bool.not_eq_true, List.contains_iff_mem, mem_full hk h1 h0]
    omega

theorem vLBegins1 : cLBegins.Valid (cx [cMade, cMake, cRover, cPairs, cHas, cSame, cSameP, cAw] []) I25 := by
  refine Ctr.valid_run resp25 (glIn _ _) (allOf (.cons vMade (.cons vMake (.cons vRover (.cons vPairs (.cons vHas (.cons vSame (.cons (vSame.win 1 5 11 (by decide) (by decide) (by decide)) (.cons vAw .nil))))))))) (by decide) (by decide) (by kernel_rfl) rfl sLBegins [.i, .i, .i, .i] [.b] (by decide) ?_
  intro ρ0 hρ hpre _
  obtain ⟨a, b, c, v3, rfl⟩ := four_iiii hρ
  have hp := hpre
  simp only [cLBegins, cLFair, u8s, le', List.cons_append, List.nil_append, holds_cons_iff, E.den, BiO.den, List.getD_cons_zero, List.getD_cons_succ, decide_eq_true_eq] at hp
  obtain ⟨a0, a1, b0, b1, c0, c1, d0, d1, _⟩ := hp
  obtain ⟨T, K, N, hm⟩ := made_ok a0 b0 c0
  have hl := fullR_small hm.kind hm.nm
  have hlen := fullR_len T K N
  have t2 := hm.kind.t2
  have t24 := hm.kind.t24
  have h1 := hm.n1
  have hnm := hm.nm
  have hml := mostN_le T K
  have hv := tmod_small d0 (show (0 : Int) < (N : Int) by omega)
  obtain ⟨n, hn⟩ := int_nat (x := v3.tmod N + 1) (by omega)
  have hnN : n ≤ N := by omega
  have hn1 : 1 ≤ n := by omega
  have hnt : n * T ≤ N * T := Nat.mul_le_mul_right _ hnN
  have hnT : (n : Int) * (T : Int) = ((n * T : Nat) : Int) := (Int.natCast_mul _ _).symm
  have hro := roving_ok (N := N) hm.kind h1
  have hsl := srtAll_len (seats (fullR T K N))
  have hsl2 := srtLen_le (seats (fullR T K N))
  have hsl5 := seats_len (fullR T K N)
  have hs0 : 0 ≤ srtLen (seats (fullR T K N)) := by rw [srtLen_pairs]; omega
  have htake : List.take (n * T) (List.drop 0 (fullR T K N)) = fullR T K n := fullR_take hnN
  have hfl := fullR_len T K n
  refine ⟨[{ b := true }], Runs.step rfl hpre ?_, rfl⟩
  have hw : IntKind.wrap .i64 (v3.tmod N + 1) = n := by rw [hn]; exact w64 (by omega) (by omega)
  have hw2 : IntKind.wrap .i64 ((n : Int) * (T : Int)) = ((n * T : Nat) : Int) := by rw [hnT]; exact w64 (by omega) (by omega)
  have hw3 : IntKind.wrap .i64 (IntKind.wrap .i64 (2 * (T : Int)) + 1) = 2 * (T : Int) + 1 := by rw [w64 (x := 2 * (T : Int)) (by omega) (by omega)]; exact w64 (by omega) (by omega)
  simp only [StOk, E.den, BiO.den, UnO.den, I25, List.map_cons, List.map_nil, List.getD_cons_zero, List.getD_cons_succ, Nat.reduceSub, hm.f0, hm.f1, hm.f2, hm.f3, hm.f4, hm.r, hw, hw2, hw3, hro, Int.toNat_natCast, Int.toNat_zero, htake, decide_eq_true_eq, decide_eq_false_iff_not, holds_cons_iff, holds_nil_iff, Bool.not_eq_true', beq_iff_eq, beq_eq_false_iff_ne]
  refine ⟨⟨by omega, trivial⟩, fun _ => ⟨⟨by omega, by omega, by omega, by omega, trivial⟩, fun _ => ⟨fun k0 => ⟨⟨by omega, by omega, trivial⟩, fun _ => ?_⟩, fun k0 => ⟨⟨by omega, by omega, trivial⟩, fun _ => ?_⟩⟩⟩⟩
  · subst k0
    obtain ⟨q0, q1, q2, q3, q4, q5, q6⟩ := make_r (N := n) hm.kind hn1 (by omega)
    rw [q0, q1, q2, q3, q4, q5, q6]
    refine ⟨fun _ => ⟨⟨?_, ?_, ?_⟩, fun _ => trivial⟩, fun q => (q rfl).elim⟩
    all_goals (repeat' refine And.intro ?_ ?_) <;> first | exact eqR_refl _ _ | omega | trivial
  · have hKm : (if 1 > c.tmod 4 then (1 : Int) else c.tmod 4) = K := by
      have := hm.eK
      have hc4 := tmod_small c0 (show (0 : Int) < 4 by omega)
      unfold madeK at this
      split at this
      · rename_i h; rw [h.1]; exact this
      · rw [if_neg (by omega)]; exact this
    obtain ⟨q0, q1, q2, q3, q4, q5, q6⟩ := make_k (N := n) hm.kind k0 hn1 (by omega)
    rw [hKm, q0, q1, q2, q3, q4, q5, q6]
    refine ⟨fun _ => ⟨⟨?_, ?_, ?_⟩, fun _ => trivial⟩, fun q => (q rfl).elim⟩
    all_goals (repeat' refine And.intro ?_ ?_) <;> first | exact eqR_refl _ _ | omega | trivial
theorem vLBegins : ({ cLBegins with outs := [], res := .bool (.bl true) } : Ctr).Valid (cx [cMade, cMake, cRover, cPairs, cHas, cSame, cSameP, cAw] []) I25 := vLBegins1.said resp25 rfl rfl (by decide)
end Go.Proofs.Ytbknfmmoniammaa
