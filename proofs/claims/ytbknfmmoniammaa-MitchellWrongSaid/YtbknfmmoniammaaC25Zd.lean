/- Chapter 25: MitchellFull. -/
import Derived.Test.YtbknfmmoniammaaC25Zc
namespace Go.Proofs.Ytbknfmmoniammaa
open Go Go.Sx Go.Proofs.C25

/-! ### who is there -/
theorem mem_pairs {m : List (List Int)} {x : Int} : x ∈ pairs m ↔ 1 ≤ x ∧ ∃ r ∈ m, x = r.getD 2 0 ∨ x = r.getD 3 0 := by
  unfold pairs
  rw [sortU_mem, nums_seats]
  simp only [List.mem_flatMap, List.mem_cons, List.not_mem_nil, or_false]
theorem pairM_lt {T K r j : Nat} (h : 0 < T) : pairM T K r j < T := by
  have := @pair_int T K r j h
  have h2 := Int.emod_lt_of_pos ((j : Int) - (if K = 2 ∧ T / 2 ≤ r then (r : Int) + 1 else r)) (b := (T : Int)) (by omega)
  omega
theorem pairM_0 {T K j : Nat} (h : 2 ≤ T) (hj : j < T) : pairM T K 0 j = j := by
  have := @pair_int T K 0 j (by omega)
  rw [if_neg (by omega), Int.natCast_zero, Int.sub_zero, Int.emod_eq_of_lt (by omega) (by omega)] at this
  omega
theorem rowM_in {T K N r j : Nat} (hr : r < N) (hj : j < T) : rowM T K r j ∈ rowsM T K N := by
  unfold rowsM
  simp only [List.mem_flatMap, List.mem_map, List.mem_range]
  exact ⟨r, hr, j, hj, rfl⟩
theorem mem_full {T K N : Nat} (hk : KindOk T K) (h1 : 1 ≤ N) (h0 : K ≠ 0) {x : Int} : x ∈ pairs (fullR T K N) ↔ 1 ≤ x ∧ x ≤ 2 * T := by
  rw [mem_pairs]
  constructor
  · rintro ⟨h, r, hr, hx⟩
    obtain ⟨a, j, _, hj, _, _, _, h3, _, h2⟩ := fullR_mem hr
    have := pairM_lt (T := T) (K := if K = 0 then 1 else K) (r := a) (j := j) (by omega)
    refine ⟨h, ?_⟩
    rcases hx with rfl | rfl
    · rcases h2 with h2 | h2
      · omega
      · exact (h0 h2.1).elim
    · omega
  · rintro ⟨ha, hb⟩
    refine ⟨ha, ?_⟩
    by_cases hx : x ≤ T
    · refine ⟨rowM T K 0 (x.toNat - 1), ?_, Or.inl ?_⟩
      · unfold fullR; rw [if_neg h0]; exact rowM_in (by omega) (by omega)
      · show x = ((x.toNat - 1 : Nat) : Int) + 1
        omega
    · refine ⟨rowM T K 0 (x.toNat - 1 - T), ?_, Or.inr ?_⟩
      · unfold fullR; rw [if_neg h0]; exact rowM_in (by omega) (by omega)
      · show x = (T : Int) + 1 + (pairM T K 0 (x.toNat - 1 - T) : Nat)
        rw [pairM_0 hk.t2 (by omega)]
        omega
theorem pairs_full {T K N : Nat} (hk : KindOk T K) (h1 : 1 ≤ N) (h0 : K ≠ 0) : (pairs (fullR T K N)).length = 2 * T := by
  have : pairs (fullR T K N) = (List.range (2 * T)).map fun (n : Nat) => (n : Int) + 1 := by
    unfold pairs
    refine sortU_eq ?_ fun x => ?_
    · rw [List.pairwise_map]
      exact List.pairwise_lt_range.imp fun h => by omega
    · have := mem_full hk h1 h0 (x := x)
      unfold pairs at this
      rw [sortU_mem] at this
      rw [this, List.mem_map]
      constructor
      · rintro ⟨n, hn, rfl⟩
        rw [List.mem_range] at hn
        omega
      · rintro ⟨a, b⟩
        exact ⟨x.toNat - 1, List.mem_range.2 (by omega), by omega⟩
  rw [this, List.length_map, List.length_range]

/-! ### counting -/
def ofN (c : List Nat) : List (List Int) := ones (c.map fun (n : Nat) => (n : Int))
theorem ofN_get {c : List Nat} {q : Nat} : ((ofN c).getD q []).getD 0 0 = ((c.getD q 0 : Nat) : Int) := by
  unfold ofN
  rw [get_ones]
  simp only [List.getD_eq_getElem?_getD, List.getElem?_map]
  cases c[q]? <;> rfl
theorem ofN_set {c : List Nat} {q : Nat} (h : q < c.length) : setAt (ofN c) q 0 (((c.getD q 0 : Nat) : Int) + 1) = ofN (c.modify q (· + 1)) := by
  unfold ofN
  rw [set_ones (by rw [List.length_map]; exact h)]
  congr 1
  apply List.ext_getElem?
  intro i
  rw [List.getElem?_map, List.getElem?_set, List.getElem?_map, List.getElem?_modify, List.length_map]
  by_cases hi : q = i
  · subst hi
    simp [h, List.getD_eq_getElem?_getD]
  · simp [hi]
theorem bump_len (c : List Nat) (r : List Int) : (bumpN c r).length = c.length := by simp [bumpN]
theorem ofN_len (c : List Nat) : (ofN c).length = c.length := by simp [ofN, ones]
theorem modify_le {c : List Nat} {b q i : Nat} (h : ∀ i, c.getD i 0 ≤ b) : (c.modify q (· + 1)).getD i 0 ≤ b + 1 := by
  rw [List.getD_eq_getElem?_getD, List.getElem?_modify]
  have := h i
  rw [List.getD_eq_getElem?_getD] at this
  cases hc : c[i]? with
  | none => simp
  | some n =>
    rw [hc] at this
    simp only [Option.map_eq_map, Option.map_some, Option.getD_some] at this ⊢
    split <;> omega

section
variable {k T K M : Nat} {f1 f2 f3 f4 f5 : Int} {l6 : List (List Int)} {out : List U}

theorem rLFull2 (hk : KindOk T K) (h0 : K ≠ 0) (hM : M = mostN T K) : ∀ f p : Nat, p + f = 2 * T + 1 → 1 ≤ p →
    Runs I25 (tmsLFull.map Tm.pre) ssLFull 2 [{ i := (K : Int) }, { i := (T : Int) }, { i := f2 }, { i := (T : Int) }, { i := f4 }, { i := f5 }, { l := l6 }, { i := (M : Int) }, { i := (T : Int) }, { i := (M : Int) }, { i := (T : Int) }, { i := (copies K : Int) }, { i := 2 }, { l := fullR T K M }, { l := ofN (0 :: List.replicate (2 * T) M) }, { i := ((2 * T + 1 : Nat) : Int) }, { i := (p : Int) }] [{ b := true }]
  | f, p, hf, hp => by
    have t2 := hk.t2
    have t24 := hk.t24
    have hml := mostN_le T K
    have hlen := fullR_small hk (N := M) (by omega)
    refine Runs.step rfl ?_ ?_
    · simp only [tmsLFull, List.map_cons, List.getD_cons_zero, List.getD_cons_succ, holds_cons_iff, E.den, BiO.den, UnO.den, decide_eq_true_eq, beq_iff_eq, ofN_len, List.length_cons, List.length_replicate]
      (repeat' refine And.intro ?_ ?_) <;> first | exact Holds.nil | omega | trivial
    · simp only [StOk, E.den, BiO.den, UnO.den, TeO.den, I25, List.map_cons, List.map_nil, List.getD_cons_zero, List.getD_cons_succ, Int.toNat_natCast, show Int.toNat 0 = 0 from rfl, decide_eq_true_eq, decide_eq_false_iff_not, holds_cons_iff, holds_nil_iff, Bool.not_eq_true', Bool.not_eq_false', beq_iff_eq, beq_eq_false_iff_ne, ofN_get]
      rw [w64 (x := 2 * (T : Int)) (by omega) (by omega), w64 (x := (p : Int) + 1) (by omega) (by omega), w64 (x := (T : Int) + -1) (by omega) (by omega)]
      refine ⟨fun hle => ?_, fun hgt => ?_⟩
      · have hg : (0 :: List.replicate (2 * T) M).getD p 0 = M := by
          obtain ⟨q, rfl⟩ : ∃ q, p = q + 1 := ⟨p - 1, by omega⟩
          rw [List.getD_cons_succ, List.getD_eq_getElem?_getD, List.getElem?_replicate, if_pos (by omega)]
          rfl
        rw [hg]
        have hnext : Runs I25 (tmsLFull.map Tm.pre) ssLFull 2 [{ i := (K : Int) }, { i := (T : Int) }, { i := f2 }, { i := (T : Int) }, { i := f4 }, { i := f5 }, { l := l6 }, { i := (M : Int) }, { i := (T : Int) }, { i := (M : Int) }, { i := (T : Int) }, { i := (copies K : Int) }, { i := 2 }, { l := fullR T K M }, { l := ofN (0 :: List.replicate (2 * T) M) }, { i := ((2 * T + 1 : Nat) : Int) }, { i := (p : Int) + 1 }] [{ b := true }] := by
          cases f with
          | zero => omega
          | succ f =>
            have := rLFull2 hk h0 hM f (p + 1) (by omega) (by omega)
            rw [Int.natCast_add, Int.natCast_one] at this
            exact this
        refine ⟨⟨by omega, by omega, trivial⟩, fun _ => ⟨fun q => (q rfl).elim, fun _ => ⟨fun q => ⟨fun e => ?_, fun _ => hnext⟩, fun q => ⟨fun e => ?_, fun _ => hnext⟩⟩⟩⟩
        · exfalso
          have : M = T := by rw [hM]; unfold mostN; rw [if_neg (by omega)]
          omega
        · exfalso
          have : M = T - 1 := by rw [hM]; unfold mostN; rw [if_pos (by omega)]
          omega
      · refine ⟨⟨by omega, trivial⟩, fun _ => ?_⟩
        have hpl := pairs_full hk (N := M) (by rw [hM]; unfold mostN; split <;> omega) h0
        have e : srtLen (seats (fullR T K M)) = 2 * (T : Int) := by rw [srtLen_pairs, hpl]; omega
        rw [e, beq_self_eq_true]

theorem rLFull1 (hk : KindOk T K) (h0 : K ≠ 0) (hM : M = mostN T K) : ∀ B A : List (List Int), A ++ B = fullR T K M → ∀ c : List Nat, c = A.foldl bumpN (List.replicate (2 * T + 1) 0) → c.length = 2 * T + 1 → (∀ i, c.getD i 0 ≤ 2 * A.length) →
    Runs I25 (tmsLFull.map Tm.pre) ssLFull 1 [{ i := (K : Int) }, { i := (T : Int) }, { i := f2 }, { i := (T : Int) }, { i := f4 }, { i := f5 }, { l := l6 }, { i := (M : Int) }, { i := (T : Int) }, { i := (M : Int) }, { i := (T : Int) }, { i := (copies K : Int) }, { i := 2 }, { l := fullR T K M }, { l := ofN c }, { i := ((2 * T + 1 : Nat) : Int) }, { i := ((fullR T K M).length : Int) }, { i := (A.length : Int) }] [{ b := true }]
  | B, A, hAB, c, hc, hcl, hcb => by
    have t2 := hk.t2
    have t24 := hk.t24
    have hlen := fullR_small hk (N := M) (by omega)
    have hlen2 : A.length + B.length = (fullR T K M).length := by rw [← hAB, List.length_append]
    refine Runs.step rfl ?_ ?_
    · simp only [tmsLFull, List.map_cons, List.getD_cons_zero, List.getD_cons_succ, holds_cons_iff, E.den, BiO.den, UnO.den, decide_eq_true_eq, beq_iff_eq, ofN_len]
      (repeat' refine And.intro ?_ ?_) <;> first | exact Holds.nil | omega | trivial
    · cases B with
      | nil =>
        refine br_f ?_ ?_
        · simp only [E.den, BiO.den, List.getD_cons_zero, List.getD_cons_succ, decide_eq_false_iff_not]
          simp at hlen2; omega
        · rw [List.append_nil] at hAB
          have hfull := beq_iff_eq.1 (hk.full h0)
          rw [← hM, ← hAB, ← hc] at hfull
          rw [hfull]
          exact rLFull2 hk h0 hM (2 * T) 1 (by omega) (by omega)
      | cons x B =>
        have hx : x ∈ fullR T K M := by rw [← hAB]; simp
        have hget : (fullR T K M).getD A.length [] = x := by rw [← hAB]; exact getD_at
        obtain ⟨a, j, _, hj, _, _, _, h3, _, h2⟩ := fullR_mem hx
        have hpl := pairM_lt (T := T) (K := if K = 0 then 1 else K) (r := a) (j := j) (by omega)
        have h2' : x.getD 2 0 = j + 1 := by
          rcases h2 with h2 | h2
          · exact h2
          · exact (h0 h2.1).elim
        obtain ⟨u, hu⟩ := int_nat (x := x.getD 2 0) (by omega)
        obtain ⟨v, hv⟩ := int_nat (x := x.getD 3 0) (by omega)
        have hbump : bumpN c x = (c.modify u (· + 1)).modify v (· + 1) := by unfold bumpN; rw [hu, hv]; rfl
        have b1 := fun i => modify_le (q := u) (i := i) hcb
        refine br_t ?_ ?_
        · simp only [E.den, BiO.den, List.getD_cons_zero, List.getD_cons_succ, decide_eq_true_eq]
          simp at hlen2; omega
        simp only [StOk, E.den, BiO.den, UnO.den, TeO.den, I25, List.map_cons, List.map_nil, List.getD_cons_zero, List.getD_cons_succ, Int.toNat_natCast, show Int.toNat 0 = 0 from rfl, show Int.toNat 2 = 2 from rfl, show Int.toNat 3 = 3 from rfl, decide_eq_true_eq, holds_cons_iff, holds_nil_iff, hget, hu, hv, ofN_get]
        have hcu := hcb u
        have hcv := b1 v
        rw [w64 (x := ((c.getD u 0 : Nat) : Int) + 1) (by omega) (by omega), ofN_set (by omega), ofN_get, w64 (x := (((c.modify u (· + 1)).getD v 0 : Nat) : Int) + 1) (by omega) (by omega), ofN_set (by rw [List.length_modify]; omega), w64 (x := (A.length : Int) + 1) (by omega) (by omega), ← hbump]
        refine ⟨⟨by omega, trivial⟩, fun _ => ⟨⟨by omega, by omega, trivial⟩, fun _ => ⟨⟨by omega, by omega, trivial⟩, fun _ => ?_⟩⟩⟩
        have := rLFull1 hk h0 hM B (A ++ [x]) (by rw [List.append_assoc]; exact hAB) (bumpN c x) (by rw [List.foldl_append, ← hc]; rfl) (by rw [bump_len]; exact hcl) (fun i => by
          rw [hbump, List.length_append]
          have := modify_le (q := v) (i := i) b1
          simp only [List.length_cons, List.length_nil]
          omega)
        rw [List.length_append, List.length_cons, List.length_nil, Nat.zero_add, Int.natCast_add, Int.natCast_one] at this
        exact this
end

theorem vLFull1 : cLFull.Valid (cx [cMade, cMost, cMake, cFair, cPairs, cAw] [5]) I25 := by
  refine Ctr.valid_run resp25 (glIn _ _) (allOf (.cons vMade (.cons vMost (.cons vMake (.cons vFair (.cons vPairs (.cons vAw .nil))))))) (by decide) (by decide) (by kernel_rfl) rfl sLFull [.i, .i] [.b] (by decide) ?_
  intro ρ0 hρ hpre _
  obtain ⟨a, v1, rfl⟩ := two_ii hρ
  have hp := hpre
  simp only [cLFull, le', List.cons_append, List.nil_append, holds_cons_iff, E.den, BiO.den, List.getD_cons_zero, List.getD_cons_succ, decide_eq_true_eq] at hp
  obtain ⟨a0, a1, b0, b1, _⟩ := hp
  have hv := tmod_small b0 (show (0 : Int) < 3 by omega)
  refine ⟨[{ b := true }], Runs.step rfl hpre ?_, rfl⟩
  obtain ⟨c, hc⟩ : ∃ c, v1.tmod 3 + 1 = c := ⟨_, rfl⟩
  obtain ⟨T, K, N, hm⟩ := made_ok a0 (Int.le_refl 0) (show 0 ≤ c by omega)
  have hKc : c = K := by
    have := hm.eK
    unfold madeK at this
    have e4 : c.tmod 4 = c := Int.tmod_eq_of_lt (by omega) (by omega)
    rw [e4, if_neg (by omega)] at this
    exact this
  have h0 : K ≠ 0 := by omega
  subst hKc
  have t2 := hm.kind.t2
  have t24 := hm.kind.t24
  obtain ⟨w1, w2⟩ := way_ok hm.kind
  rw [show kOf K = K from by unfold kOf; rw [if_neg h0]] at w1 w2
  have hm1 : 1 ≤ mostN T K := by unfold mostN; split <;> omega
  have hml := mostN_le T K
  obtain ⟨q0, q1, q2, q3, q4, q5, q6⟩ := make_k hm.kind h0 hm1 (Nat.le_refl _)
  have hF : FairM T (mostN T K) T (copies K) (fullR T K (mostN T K)) := by
    have := fair_full (N := mostN T K) hm.kind.fair (Nat.le_refl _)
    unfold copies
    rw [show (((if K = 3 then 2 else 1 : Nat)) : Int) = if K = 3 then 2 else 1 from by split <;> rfl]
    exact this
  have hlen := fullR_small hm.kind (Nat.le_refl _)
  simp only [StOk, E.den, BiO.den, UnO.den, I25, List.map_cons, List.map_nil, List.getD_cons_zero, List.getD_cons_succ, Nat.reduceSub, hc, hm.f0, hm.f1, hm.f2, hm.f3, hm.f4, hm.r, w1, w2, q0, q1, q2, q3, q4, q5, q6, decide_eq_true_eq, holds_cons_iff, holds_nil_iff, Bool.not_eq_true', beq_eq_false_iff_ne]
  rw [w64 (x := 2 * (T : Int)) (by omega) (by omega), w64 (x := 2 * (T : Int) + 1) (by omega) (by omega)]
  refine ⟨fun q => (q rfl).elim, fun _ => ⟨⟨by omega, fairP_iff.2 hF, trivial⟩, fun _ => ⟨⟨by omega, by omega, trivial⟩, fun _ => ?_⟩⟩⟩
  have := rLFull1 (f2 := (N : Int)) (f4 := (copies K : Int)) (f5 := 2) (l6 := fullR T K N) hm.kind h0 rfl (fullR T K (mostN T K)) [] rfl (List.replicate (2 * T + 1) 0) rfl (by simp) (fun i => by rw [List.getD_eq_getElem?_getD, List.getElem?_replicate]; split <;> simp)
  have e1 : ofN (List.replicate (2 * T + 1) 0) = List.replicate (2 * (T : Int) + 1).toNat [0] := by
    rw [show (2 * (T : Int) + 1).toNat = 2 * T + 1 from by omega]
    simp [ofN, ones]
  rw [e1, show ((2 * T + 1 : Nat) : Int) = 2 * (T : Int) + 1 from by omega] at this
  exact this
theorem vLFull : ({ cLFull with outs := [], res := .bool (.bl true) } : Ctr).Valid (cx [cMade, cMost, cMake, cFair, cPairs, cAw] [5]) I25 := vLFull1.said resp25 rfl rfl (by decide)
end Go.Proofs.Ytbknfmmoniammaa
