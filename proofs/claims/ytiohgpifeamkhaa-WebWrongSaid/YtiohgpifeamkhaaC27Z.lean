/- Chapter 27: the movements that the laws make; WebMakes, WebFair, WebBegins. -/
import Derived.Test.YtiohgpifeamkhaaC27Y
import Derived.Test.YtiohgpifeamkhaaC27Sl
namespace Go.Proofs.Ytiohgpifeamkhaa
open Go Go.Sx Go.Proofs.C27

theorem way_ok {T K : Nat} (h : KindOk T K) : wayE T K = 0 ∧ mostV T K = mostN T K ∧ setsV T K = setsN T K ∧ copiesK T K = copiesN T K := by
  obtain ⟨t2, t24, k1, k3, ev, fo⟩ := h
  have e2 : (T : Int).tmod 2 = ((T % 2 : Nat) : Int) := by rw [Int.tmod_eq_emod_of_nonneg (by omega)]; rfl
  have d2 : (T : Int).tdiv 2 = ((T / 2 : Nat) : Int) := by rw [Int.tdiv_eq_ediv_of_nonneg (by omega)]; rfl
  have d3 : ((T / 2 : Nat) : Int).tmod 2 = ((T / 2 % 2 : Nat) : Int) := by rw [Int.tmod_eq_emod_of_nonneg (by omega)]; rfl
  have hw : wayE T K = 0 := by
    unfold wayE
    rw [e2]
    by_cases h3 : K = 3
    · subst h3; (repeat' split) <;> omega
    · have := ev h3
      by_cases h2 : K = 2
      · have := fo h2; subst h2; (repeat' split) <;> omega
      · (repeat' split) <;> omega
  refine ⟨hw, ?_, ?_, ?_⟩
  · rw [most_good hw, d2]; unfold mostN; split <;> split <;> omega
  · unfold setsV setsN; rw [d2, d3]; (repeat' split) <;> omega
  · unfold copiesK copiesN; split <;> split <;> omega
theorem mostN_in {T K : Nat} (h : KindOk T K) : 1 ≤ mostN T K ∧ mostN T K ≤ T := by
  have := h.t2; unfold mostN; split <;> omega
theorem setsN_in {T K : Nat} (h : KindOk T K) : 1 ≤ setsN T K ∧ setsN T K ≤ 24 := by
  have := h.t2; have := h.t24; unfold setsN; (repeat' split) <;> omega
theorem copiesN_in {T K : Nat} (h : KindOk T K) : 2 ≤ copiesN T K ∧ copiesN T K ≤ 24 := by
  have := h.t2; have := h.t24; unfold copiesN; split <;> omega
theorem make_k {T K N : Nat} (h : KindOk T K) (h1 : 1 ≤ N) (hN : N ≤ mostN T K) :
    makeE T N K = 0 ∧ makeF 0 T N K = T ∧ makeF 1 T N K = N ∧ makeF 2 T N K = setsN T K ∧ makeF 3 T N K = copiesN T K ∧ makeF 4 T N K = 2 ∧ makeR T N K = allRows T K N := by
  obtain ⟨w1, w2, w3, w4⟩ := way_ok h
  have hE : makeE T N K = 0 := makeE_ok w1 (by omega) (by rw [w2]; omega)
  refine ⟨hE, ?_, ?_, ?_, ?_, ?_, ?_⟩
  · unfold makeF; rw [if_neg (fun q => q hE)]; rfl
  · unfold makeF; rw [if_neg (fun q => q hE)]; rfl
  · unfold makeF; rw [if_neg (fun q => q hE)]; exact w3
  · unfold makeF; rw [if_neg (fun q => q hE)]; exact w4
  · unfold makeF; rw [if_neg (fun q => q hE)]; rfl
  · unfold makeR; rw [if_neg (fun q => q hE), w3]; rfl

structure MadeOk (a b c : Int) (T K N : Nat) : Prop where
  kind : KindOk T K
  n1 : 1 ≤ N
  nm : N ≤ mostN T K
  eT : madeT a c = T
  eN : madeN a b c = N
  eK : c.tmod 3 + 1 = K
theorem made_ok {a b c : Int} (a0 : 0 ≤ a) (b0 : 0 ≤ b) (c0 : 0 ≤ c) : ∃ T K N : Nat, MadeOk a b c T K N := by
  have hT0 := tmod_small a0 (show (0 : Int) < 23 by omega)
  have hc3 := tmod_small c0 (show (0 : Int) < 3 by omega)
  have hKe : madeK c = c.tmod 3 + 1 := by unfold madeK; omega
  obtain ⟨K, hK⟩ := int_nat (x := madeK c) (by omega)
  have hT : 2 ≤ madeT a c ∧ madeT a c ≤ 24 ∧ (madeK c ≠ 3 → madeT a c % 2 = 0) ∧ (madeK c = 2 → 4 ≤ madeT a c) := by
    have hm : (2 + a.tmod 23).tmod 2 = (2 + a.tmod 23) % 2 := Int.tmod_eq_emod_of_nonneg (by omega)
    unfold madeT
    simp only [hm]
    generalize a.tmod 23 = q at hT0 ⊢
    refine ⟨?_, ?_, ?_, ?_⟩
    · (repeat' split) <;> omega
    · (repeat' split) <;> omega
    · intro h; rw [if_neg h]; split <;> omega
    · intro h; rw [if_neg (show ¬ madeK c = 3 by omega)]; split <;> omega
  obtain ⟨T, eT⟩ := int_nat (x := madeT a c) (by omega)
  rw [eT, hK] at hT
  have hk : KindOk T K := ⟨by omega, by omega, by omega, by omega, by omega, by omega⟩
  have hmost : mostV (madeT a c) (madeK c) = mostN T K := by rw [eT, hK]; exact (way_ok hk).2.1
  have hm1 := mostN_in hk
  have hN : madeN a b c = 1 + b.tmod (mostN T K : Int) := by unfold madeN; rw [hmost, if_neg (by omega)]
  have hbm := tmod_small b0 (show (0 : Int) < (mostN T K : Int) by omega)
  obtain ⟨N, eN⟩ := int_nat (x := madeN a b c) (by omega)
  exact ⟨T, K, N, hk, by omega, by omega, eT, eN, by omega⟩
theorem MadeOk.make {a b c : Int} {T K N : Nat} (h : MadeOk a b c T K N) :
    makeE T N K = 0 ∧ makeF 0 T N K = T ∧ makeF 1 T N K = N ∧ makeF 2 T N K = setsN T K ∧ makeF 3 T N K = copiesN T K ∧ makeF 4 T N K = 2 ∧ makeR T N K = allRows T K N := make_k h.kind h.n1 h.nm

theorem rowsW_split (t k S : Nat) (r : Nat) : ∀ d, ∃ l, rowsW t k S (r + d) = rowsW t k S r ++ l
  | 0 => ⟨[], by simp⟩
  | d + 1 => by
    obtain ⟨l, hl⟩ := rowsW_split t k S r d
    exact ⟨l ++ (List.range t).map (C27.rowW t k S (r + d)), by rw [← Nat.add_assoc, rowsW_succ, hl, List.append_assoc]⟩
theorem allRows_split {T K n N : Nat} (h : n ≤ N) : ∃ l, allRows T K N = allRows T K n ++ l := by
  obtain ⟨l, hl⟩ := rowsW_split T K (setsN T K) n (N - n)
  rw [show n + (N - n) = N from by omega] at hl
  exact ⟨l, hl⟩
theorem allRows_len (T K N : Nat) : (allRows T K N).length = N * T := rowsW_len _ _ _ _
theorem allRows_take {T K n N : Nat} (h : n ≤ N) : (allRows T K N).take (n * T) = allRows T K n := by
  obtain ⟨l, hl⟩ := allRows_split (T := T) (K := K) h
  rw [hl, ← allRows_len T K n, List.take_left']
  rw [allRows_len]
theorem allRows_small {T K N : Nat} (h : KindOk T K) (hN : N ≤ mostN T K) : (allRows T K N).length ≤ 576 := by
  rw [allRows_len]
  have := mostN_in h
  have := h.t24
  exact Nat.mul_le_mul (show N ≤ 24 by omega) (show T ≤ 24 by omega)

theorem fairRows_take {T S C : Nat} : ∀ (l l2 : List (List Int)) (round table : Nat) (s : FS), fairRows T S C (l ++ l2) round table s = true → table < T → (table + l.length) % T = 0 → fairRows T S C l round table s = true
  | [], l2, round, table, s, _, ht, hm => by
    rw [List.length_nil, Nat.add_zero, Nat.mod_eq_of_lt ht] at hm
    subst hm
    rfl
  | r :: l, l2, round, table, s, h, ht, hm => by
    rw [List.cons_append] at h
    unfold fairRows at h ⊢
    split at h
    · cases h
    · rename_i s' hs
      rw [List.length_cons] at hm
      split at h
      · rename_i hT
        simp only [if_pos hT]
        refine fairRows_take l l2 _ _ _ h (by omega) ?_
        rw [show table + (l.length + 1) = T + l.length from by omega, Nat.add_mod_left] at hm
        rw [Nat.zero_add]; exact hm
      · rename_i hT
        simp only [if_neg hT]
        refine fairRows_take l l2 _ _ _ h (by omega) ?_
        rw [show table + 1 + l.length = table + (l.length + 1) from by omega]; exact hm

/-! ### loads -/
theorem copiesAt_ub {C : Nat} : ∀ (B pre : List (List Int)) (mst : Nat), (∀ k, (pre ++ B.map standKey).count k ≤ C) → mst ≤ C → copiesAt pre B mst ≤ C
  | [], _, _, _, h => h
  | x :: B, pre, mst, hc, h => by
    unfold copiesAt
    rw [List.map_cons, List.append_cons] at hc
    refine copiesAt_ub B _ _ hc ?_
    have := hc (standKey x)
    rw [List.count_append] at this
    omega
theorem copiesAt_lb (k : List Int) : ∀ (B pre : List (List Int)) (mst : Nat), pre.count k ≤ mst → (pre ++ B.map standKey).count k ≤ copiesAt pre B mst
  | [], pre, mst, h => by simpa [copiesAt] using h
  | x :: B, pre, mst, h => by
    unfold copiesAt
    rw [List.map_cons, List.append_cons]
    refine copiesAt_lb k B _ _ ?_
    by_cases hk : standKey x = k
    · rw [hk]; omega
    · have : List.count k [standKey x] = 0 := List.count_eq_zero.2 (by simpa using fun e => hk e.symm)
      rw [List.count_append, this]
      omega
theorem keys_succ (T K N : Nat) : (allRows T K (N + 1)).map standKey = (allRows T K N).map standKey ++ roundKeys T K N := by
  unfold allRows roundKeys
  rw [rowsW_succ, List.map_append, List.map_map]
  rfl
theorem roundKeys_0 {T K r : Nat} {k : List Int} (h : k ∈ roundKeys T K r) : k.getD 0 0 = r := by
  unfold roundKeys at h
  obtain ⟨j, _, rfl⟩ := List.mem_map.1 h
  rfl
theorem keys_0 {T K : Nat} {k : List Int} : ∀ {N : Nat}, k ∈ (allRows T K N).map standKey → k.getD 0 0 < N
  | 0, h => by simp [allRows, rowsW] at h
  | N + 1, h => by
    rw [keys_succ, List.mem_append] at h
    rcases h with h | h
    · have := keys_0 h; omega
    · have := roundKeys_0 h; omega
theorem keys_count {T K C : Nat} (k : List Int) : ∀ {N : Nat}, (∀ r, r < N → (roundKeys T K r).count k ≤ C) → ((allRows T K N).map standKey).count k ≤ C
  | 0, _ => by simp [allRows, rowsW]
  | N + 1, h => by
    rw [keys_succ, List.count_append]
    by_cases hk : k.getD 0 0 = N
    · have : ((allRows T K N).map standKey).count k = 0 := List.count_eq_zero.2 (fun hm => by have := keys_0 hm; omega)
      have := h N (by omega)
      omega
    · have : (roundKeys T K N).count k = 0 := List.count_eq_zero.2 (fun hm => hk (roundKeys_0 hm))
      have := keys_count (C := C) k (N := N) (fun r hr => h r (by omega))
      omega

structure RowsOk (T K N : Nat) : Prop where
  fair : fairB [(T : Int), (N : Int), (setsN T K : Int), (copiesN T K : Int)] (allRows T K N) = true
  els : ((allRows T K N).all fun r => r.all fun x => decide ((0 : Int) ≤ x) && decide (x ≤ 100)) = true
  cop : copiesV (allRows T K N) = copiesN T K
  odd : K = 3 ∨ setsN T K % 2 = 1
theorem rows_ok {T K N : Nat} (h : KindOk T K) (h1 : 1 ≤ N) (hN : N ≤ mostN T K) : RowsOk T K N := by
  have hall := h.all
  unfold fairAll at hall
  simp only [Bool.and_eq_true, decide_eq_true_eq] at hall
  obtain ⟨⟨⟨⟨p1, p2⟩, p3⟩, p4⟩, p5⟩ := hall
  have t2 := h.t2
  have t24 := h.t24
  have hm := mostN_in h
  have hs := setsN_in h
  have hc := copiesN_in h
  obtain ⟨l, hl⟩ := allRows_split (T := T) (K := K) hN
  have hlen := allRows_len T K N
  refine ⟨?_, ?_, ?_, p5⟩
  · unfold fairB
    simp only [List.getD_cons_zero, List.getD_cons_succ, Int.toNat_natCast, Bool.and_eq_true, decide_eq_true_eq]
    refine ⟨⟨by omega, by omega, by omega, by omega, by omega, by omega, by omega, by omega, by rw [hlen, Nat.mul_comm]⟩, ?_⟩
    rw [hl] at p1
    refine fairRows_take _ _ _ _ _ p1 (by omega) ?_
    rw [hlen, Nat.zero_add, Nat.mul_mod_left]
  · rw [hl, List.all_append, Bool.and_eq_true] at p2
    exact p2.1
  · unfold copiesV
    have hub : copiesAt [] (allRows T K N) 0 ≤ copiesN T K := by
      refine copiesAt_ub _ _ _ (fun k => ?_) (Nat.zero_le _)
      rw [List.nil_append]
      refine keys_count k fun r hr => ?_
      have := List.all_eq_true.1 p3 r (List.mem_range.2 (by omega))
      by_cases hk : k ∈ roundKeys T K r
      · exact of_decide_eq_true (List.all_eq_true.1 this k hk)
      · rw [List.count_eq_zero.2 hk]; exact Nat.zero_le _
    have hlb := copiesAt_lb [0, 0] (allRows T K N) [] 0 (by simp)
    rw [List.nil_append] at hlb
    obtain ⟨l1, hl1⟩ := allRows_split (T := T) (K := K) h1
    have : copiesN T K ≤ ((allRows T K N).map standKey).count [0, 0] := by
      rw [hl1, List.map_append, List.count_append]
      have e : (allRows T K 1).map standKey = roundKeys T K 0 := by
        rw [keys_succ]
        simp [allRows, rowsW]
      rw [e, p4]
      omega
    omega

/-! ### WebMakes -/
theorem vLMakes1 : cLMakes.Valid (cx [cMakes, cAw] []) I27 := by
  refine Ctr.valid_run resp27 (glIn _ _) (allOf (.cons vMakes (.cons vAw .nil))) (by decide) (by decide) (by kernel_rfl) rfl sLMakes [.i, .i, .i] [.b] (by decide) ?_
  intro ρ0 hρ hpre _
  obtain ⟨t, r, k, rfl⟩ := three_iii hρ
  exact ⟨[{ b := true }], Runs.step rfl hpre rfl, rfl⟩
theorem vLMakes : ({ cLMakes with outs := [], res := .bool (.bl true) } : Ctr).Valid (cx [cMakes, cAw] []) I27 := vLMakes1.said resp27 rfl rfl (by decide)

/-! ### WebFair -/
theorem vLFair1 : cLFair.Valid (cx [cMade, cFair, cCopies, cAw] []) I27 := by
  refine Ctr.valid_run resp27 (glIn _ _) (allOf (.cons vMade (.cons (re vFair) (.cons vCopies (.cons vAw .nil))))) (by decide) (by decide) (by kernel_rfl) rfl sLFair [.i, .i, .i] [.b] (by decide) ?_
  intro ρ0 hρ hpre _
  obtain ⟨a, b, c, rfl⟩ := three_iii hρ
  have hp := hpre
  simp only [cLFair, u8s, le', List.cons_append, List.nil_append, holds_cons_iff, E.den, BiO.den, List.getD_cons_zero, List.getD_cons_succ, decide_eq_true_eq] at hp
  obtain ⟨a0, a1, b0, b1, c0, c1, _⟩ := hp
  obtain ⟨T, K, N, hm⟩ := made_ok a0 b0 c0
  obtain ⟨q0, q1, q2, q3, q4, q5, q6⟩ := hm.make
  have ok := rows_ok hm.kind hm.n1 hm.nm
  have t2 := hm.kind.t2
  have t24 := hm.kind.t24
  have n1 := hm.n1
  have nm := hm.nm
  have hmn := mostN_in hm.kind
  have hs := setsN_in hm.kind
  have hc := copiesN_in hm.kind
  have hsm := allRows_small hm.kind hm.nm
  have hels := ok.els
  have hfair := ok.fair
  refine ⟨[{ b := true }], Runs.step rfl hpre ?_, rfl⟩
  simp only [StOk, E.den, BiO.den, UnO.den, TeO.den, I27, List.map_cons, List.map_nil, List.getD_cons_zero, List.getD_cons_succ, Nat.reduceSub, hm.eT, hm.eN, hm.eK, q1, q2, q3, q4, q5, q6, ok.cop, decide_eq_true_eq, decide_eq_false_iff_not, holds_cons_iff, holds_nil_iff, Bool.not_eq_true', beq_iff_eq, beq_eq_false_iff_ne]
  refine ⟨fun q => by omega, fun _ => ⟨fun q => by omega, fun _ => ⟨fun q => (q rfl).elim, fun _ => ⟨?_, fun _ => ?_⟩⟩⟩⟩
  · (repeat' refine And.intro ?_ ?_) <;> first | exact hels | exact hfair | omega | trivial
  · have codd : (setsN T K : Int).tmod 2 = ((setsN T K % 2 : Nat) : Int) := by rw [Int.tmod_eq_emod_of_nonneg (by omega)]; rfl
    have hcop : K = 3 → copiesN T K = T := fun h => by unfold copiesN; rw [if_pos h]
    have hcop2 : K ≠ 3 → copiesN T K = 2 := fun h => by unfold copiesN; rw [if_neg h]
    have hodd := ok.odd
    (repeat' first | (refine And.intro ?_ ?_) | intro _) <;> first | trivial | rfl | omega | (rw [codd, show setsN T K % 2 = 1 from by omega]; rfl)
theorem vLFair : ({ cLFair with outs := [], res := .bool (.bl true) } : Ctr).Valid (cx [cMade, cFair, cCopies, cAw] []) I27 := vLFair1.said resp27 rfl rfl (by decide)

/-! ### WebBegins -/
theorem vLBegins1 : cLBegins.Valid (cx [cMade, cMake, cSame, cSameP, cAw] []) I27 := by
  refine Ctr.valid_run resp27 (glIn _ _) (allOf (.cons vMade (.cons vMake (.cons vSame (.cons (vSame.win 1 5 11 (by decide) (by decide) (by decide)) (.cons vAw .nil)))))) (by decide) (by decide) (by kernel_rfl) rfl sLBegins [.i, .i, .i, .i] [.b] (by decide) ?_
  intro ρ0 hρ hpre _
  obtain ⟨a, b, c, v3, rfl⟩ := four_iiii hρ
  have hp := hpre
  simp only [cLBegins, u8s, le', List.cons_append, List.nil_append, holds_cons_iff, E.den, BiO.den, List.getD_cons_zero, List.getD_cons_succ, decide_eq_true_eq] at hp
  obtain ⟨a0, a1, b0, b1, c0, c1, d0, d1, _⟩ := hp
  obtain ⟨T, K, N, hm⟩ := made_ok a0 b0 c0
  obtain ⟨q0, q1, q2, q3, q4, q5, q6⟩ := hm.make
  have hl := allRows_small hm.kind hm.nm
  have hlen := allRows_len T K N
  have t2 := hm.kind.t2
  have t24 := hm.kind.t24
  have h1 := hm.n1
  have hnm := hm.nm
  have hmn := mostN_in hm.kind
  have hv := tmod_small d0 (show (0 : Int) < (N : Int) by omega)
  obtain ⟨n, hn⟩ := int_nat (x := v3.tmod N + 1) (by omega)
  have hnN : n ≤ N := by omega
  have hn1 : 1 ≤ n := by omega
  have hnt : n * T ≤ N * T := Nat.mul_le_mul_right _ hnN
  have hnT : (n : Int) * (T : Int) = ((n * T : Nat) : Int) := (Int.natCast_mul _ _).symm
  have htake : List.take (n * T) (List.drop 0 (allRows T K N)) = allRows T K n := allRows_take hnN
  have hfl := allRows_len T K n
  obtain ⟨r0, r1, r2, r3, r4, r5, r6⟩ := make_k (N := n) hm.kind hn1 (by omega)
  refine ⟨[{ b := true }], Runs.step rfl hpre ?_, rfl⟩
  have hmax : (if 1 > (N : Int) then (1 : Int) else (N : Int)) = N := if_neg (by omega)
  have hw : IntKind.wrap .i64 (v3.tmod N + 1) = n := by rw [hn]; exact w64 (by omega) (by omega)
  have hw2 : IntKind.wrap .i64 ((n : Int) * (T : Int)) = ((n * T : Nat) : Int) := by rw [hnT]; exact w64 (by omega) (by omega)
  simp only [StOk, E.den, BiO.den, UnO.den, I27, List.map_cons, List.map_nil, List.getD_cons_zero, List.getD_cons_succ, Nat.reduceSub, hm.eT, hm.eN, hm.eK, q1, q2, q3, q4, q5, q6, hmax, hw, hw2, r0, r1, r2, r3, r4, r5, r6, Int.toNat_natCast, Int.toNat_zero, htake, decide_eq_true_eq, holds_cons_iff, holds_nil_iff, beq_iff_eq, beq_eq_false_iff_ne]
  refine ⟨⟨by omega, by omega, trivial⟩, fun _ => ⟨fun _ => ⟨?_, fun _ => trivial⟩, fun q => (q rfl).elim⟩⟩
  (repeat' refine And.intro ?_ ?_) <;> first | exact eqR_refl _ _ | omega | trivial
theorem vLBegins : ({ cLBegins with outs := [], res := .bool (.bl true) } : Ctr).Valid (cx [cMade, cMake, cSame, cSameP, cAw] []) I27 := vLBegins1.said resp27 rfl rfl (by decide)
end Go.Proofs.Ytiohgpifeamkhaa
