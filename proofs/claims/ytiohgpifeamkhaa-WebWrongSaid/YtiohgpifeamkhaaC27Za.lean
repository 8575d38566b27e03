/- Chapter 27: WebMoves, WebWrong. -/
import Derived.Test.YtiohgpifeamkhaaC27Z
namespace Go.Proofs.Ytiohgpifeamkhaa
open Go Go.Sx Go.Proofs.C27

theorem rowsW_get {T K S : Nat} (hT : 0 < T) : ∀ (N i : Nat), i < N * T → (rowsW T K S N).getD i [] = C27.rowW T K S (i / T) (i % T)
  | 0, i, h => by omega
  | N + 1, i, h => by
    have hl := rowsW_len T K S N
    rw [rowsW_succ]
    by_cases hi : i < N * T
    · rw [List.getD_eq_getElem?_getD, List.getElem?_append_left (by omega), ← List.getD_eq_getElem?_getD]
      exact rowsW_get hT N i hi
    · obtain ⟨j, rfl⟩ : ∃ j, i = N * T + j := ⟨i - N * T, by omega⟩
      have hj : j < T := by rw [Nat.add_mul] at h; omega
      rw [List.getD_eq_getElem?_getD, List.getElem?_append_right (by omega), hl, Nat.add_sub_cancel_left]
      rw [List.getElem?_map, List.getElem?_range hj]
      rw [Nat.add_comm (N * T) j, Nat.add_mul_div_right _ _ hT, Nat.add_mul_mod_self_right, Nat.div_eq_of_lt hj, Nat.mod_eq_of_lt hj, Nat.zero_add]
      rfl
theorem rowW_at {T K S N r j : Nat} (hT : 0 < T) (hr : r < N) (hj : j < T) : (rowsW T K S N).getD (r * T + j) [] = C27.rowW T K S r j := by
  have hi : r * T + j < N * T := by
    have : (r + 1) * T ≤ N * T := Nat.mul_le_mul_right _ (by omega)
    rw [Nat.add_mul, Nat.one_mul] at this
    omega
  rw [rowsW_get hT N _ hi, Nat.add_comm (r * T) j, Nat.add_mul_div_right _ _ hT, Nat.add_mul_mod_self_right, Nat.div_eq_of_lt hj, Nat.mod_eq_of_lt hj, Nat.zero_add]
theorem row_c0 (T K S r j : Nat) : (C27.rowW T K S r j).getD 0 0 = r := rfl
theorem row_c1 (T K S r j : Nat) : (C27.rowW T K S r j).getD 1 0 = j := rfl
theorem row_c2 (T K S r j : Nat) : (C27.rowW T K S r j).getD 2 0 = (j : Int) + 1 := rfl
theorem row_c3 (T K S r j : Nat) : (C27.rowW T K S r j).getD 3 0 = (T : Int) + 1 + ((if r ≤ j then j - r else j + T - r : Nat) : Int) := rfl
theorem row_c4 (T K S r j : Nat) : (C27.rowW T K S r j).getD 4 0 = if K = 3 then (r : Int) else (((j + r) % S : Nat) : Int) := rfl

theorem moves_0 {T K N i : Nat} {C : Int} (hk : KindOk T K) (_ : 1 ≤ N) (hN : N ≤ mostN T K) (hi : i < N * T) (hr00 : i / T = 0)
    (next : Runs I27 (tmsLMoves.map Tm.pre) ssLMoves 1 [{ i := (T : Int) }, { i := (N : Int) }, { i := (setsN T K : Int) }, { i := C }, { i := 2 }, { l := allRows T K N }, { i := (K : Int) }, { i := ((N * T : Nat) : Int) }, { i := ((i + 1 : Nat) : Int) }] [{ b := true }]) :
    Runs I27 (tmsLMoves.map Tm.pre) ssLMoves 1 [{ i := (T : Int) }, { i := (N : Int) }, { i := (setsN T K : Int) }, { i := C }, { i := 2 }, { l := allRows T K N }, { i := (K : Int) }, { i := ((N * T : Nat) : Int) }, { i := (i : Int) }] [{ b := true }] := by
  have t2 := hk.t2
  have t24 := hk.t24
  have k3 := hk.k3
  have hmn := mostN_in hk
  have hs := setsN_in hk
  have hlen := allRows_len T K N
  have hsm := allRows_small hk hN
  refine Runs.step rfl ?_ ?_
  · simp only [tmsLMoves, List.map_cons, List.getD_cons_zero, List.getD_cons_succ, holds_cons_iff, E.den, BiO.den, UnO.den, decide_eq_true_eq, beq_iff_eq]
    exact ⟨by omega, by omega, Holds.nil⟩
  refine br_t ?_ ?_
  · simp only [E.den, BiO.den, List.getD_cons_zero, List.getD_cons_succ, decide_eq_true_eq]; omega
  obtain ⟨r, hr⟩ : ∃ r, i / T = r := ⟨_, rfl⟩
  obtain ⟨j, hj⟩ : ∃ j, i % T = j := ⟨_, rfl⟩
  have hjT : j < T := by rw [← hj]; exact Nat.mod_lt _ (by omega)
  have hrN : r < N := by rw [← hr]; exact Nat.div_lt_of_lt_mul (by rw [Nat.mul_comm]; exact hi)
  have hij : i = r * T + j := by rw [← hr, ← hj, Nat.mul_comm]; exact (Nat.div_add_mod i T).symm
  have hget : (allRows T K N).getD i [] = C27.rowW T K (setsN T K) r j := by rw [hij]; exact rowW_at (by omega) hrN hjT
  have himod : (i : Int).tmod (T : Int) = (j : Int) := by rw [Int.tmod_eq_emod_of_nonneg (by omega), ← hj]; rfl
  have wi : IntKind.wrap .i64 ((i : Int) + 1) = ((i + 1 : Nat) : Int) := by rw [w64 (by omega) (by omega)]; omega
  have wj : IntKind.wrap .i64 ((j : Int) + 1) = (j : Int) + 1 := w64 (by omega) (by omega)
  have wT1 : IntKind.wrap .i64 ((T : Int) + 1) = (T : Int) + 1 := w64 (by omega) (by omega)
  have wTj : IntKind.wrap .i64 ((T : Int) + 1 + (j : Int)) = (T : Int) + 1 + (j : Int) := w64 (by omega) (by omega)
  have wr : IntKind.wrap .i64 ((r : Int) + -1) = (r : Int) + -1 := w64 (by omega) (by omega)
  have wjT : IntKind.wrap .i64 ((j : Int) + (T : Int)) = (j : Int) + (T : Int) := w64 (by omega) (by omega)
  have wjT1 : IntKind.wrap .i64 ((j : Int) + (T : Int) + -1) = (j : Int) + (T : Int) + -1 := w64 (by omega) (by omega)
  have hjS : (j : Int).tmod (setsN T K : Int) = ((j % setsN T K : Nat) : Int) := by rw [Int.tmod_eq_emod_of_nonneg (by omega)]; rfl
  have hr0 : r = 0 := by omega
  subst hr0
  simp only [StOk, E.den, BiO.den, UnO.den, TeO.den, List.map_cons, List.map_nil, List.getD_cons_zero, List.getD_cons_succ, Int.toNat_natCast, show Int.toNat 0 = 0 from rfl, show Int.toNat 1 = 1 from rfl, show Int.toNat 2 = 2 from rfl, show Int.toNat 3 = 3 from rfl, show Int.toNat 4 = 4 from rfl, hget, row_c0, row_c1, row_c2, row_c3, row_c4, wi, wj, wT1, wTj, hjS, decide_eq_true_eq, decide_eq_false_iff_not, holds_cons_iff, holds_nil_iff, Bool.not_eq_true', Bool.not_eq_false', beq_iff_eq, beq_eq_false_iff_ne]
  refine ⟨⟨by omega, trivial⟩, fun _ => ⟨fun q => (q rfl).elim, fun _ => ⟨fun e3 => ⟨fun q => ?_, fun _ => ⟨fun _ => ⟨fun q => ?_, fun _ => next⟩, fun q => (q rfl).elim⟩⟩, fun n3 => ⟨fun _ => ⟨fun q => ?_, fun _ => ⟨⟨by omega, trivial⟩, fun _ => ⟨fun q => ?_, fun _ => next⟩⟩⟩, fun q => (q rfl).elim⟩⟩⟩⟩
  · rw [if_pos (by omega)] at q; exact (q rfl).elim
  · rw [if_pos (by omega)] at q; omega
  · rw [if_pos (by omega)] at q; omega
  · rw [if_neg (by omega)] at q; exact (q rfl).elim

set_option maxHeartbeats 800000 in
theorem moves_3 {T K N i : Nat} {C : Int} (hk : KindOk T K) (_ : 1 ≤ N) (hN : N ≤ mostN T K) (hi : i < N * T) (hr00 : i / T ≠ 0) (hK : K = 3)
    (next : Runs I27 (tmsLMoves.map Tm.pre) ssLMoves 1 [{ i := (T : Int) }, { i := (N : Int) }, { i := (setsN T K : Int) }, { i := C }, { i := 2 }, { l := allRows T K N }, { i := (K : Int) }, { i := ((N * T : Nat) : Int) }, { i := ((i + 1 : Nat) : Int) }] [{ b := true }]) :
    Runs I27 (tmsLMoves.map Tm.pre) ssLMoves 1 [{ i := (T : Int) }, { i := (N : Int) }, { i := (setsN T K : Int) }, { i := C }, { i := 2 }, { l := allRows T K N }, { i := (K : Int) }, { i := ((N * T : Nat) : Int) }, { i := (i : Int) }] [{ b := true }] := by
  have t2 := hk.t2
  have t24 := hk.t24
  have k3 := hk.k3
  have hmn := mostN_in hk
  have hs := setsN_in hk
  have hlen := allRows_len T K N
  have hsm := allRows_small hk hN
  refine Runs.step rfl ?_ ?_
  · simp only [tmsLMoves, List.map_cons, List.getD_cons_zero, List.getD_cons_succ, holds_cons_iff, E.den, BiO.den, UnO.den, decide_eq_true_eq, beq_iff_eq]
    exact ⟨by omega, by omega, Holds.nil⟩
  refine br_t ?_ ?_
  · simp only [E.den, BiO.den, List.getD_cons_zero, List.getD_cons_succ, decide_eq_true_eq]; omega
  obtain ⟨r, hr⟩ : ∃ r, i / T = r := ⟨_, rfl⟩
  obtain ⟨j, hj⟩ : ∃ j, i % T = j := ⟨_, rfl⟩
  have hjT : j < T := by rw [← hj]; exact Nat.mod_lt _ (by omega)
  have hrN : r < N := by rw [← hr]; exact Nat.div_lt_of_lt_mul (by rw [Nat.mul_comm]; exact hi)
  have hij : i = r * T + j := by rw [← hr, ← hj, Nat.mul_comm]; exact (Nat.div_add_mod i T).symm
  have hget : (allRows T K N).getD i [] = C27.rowW T K (setsN T K) r j := by rw [hij]; exact rowW_at (by omega) hrN hjT
  have himod : (i : Int).tmod (T : Int) = (j : Int) := by rw [Int.tmod_eq_emod_of_nonneg (by omega), ← hj]; rfl
  have wi : IntKind.wrap .i64 ((i : Int) + 1) = ((i + 1 : Nat) : Int) := by rw [w64 (by omega) (by omega)]; omega
  have wj : IntKind.wrap .i64 ((j : Int) + 1) = (j : Int) + 1 := w64 (by omega) (by omega)
  have wT1 : IntKind.wrap .i64 ((T : Int) + 1) = (T : Int) + 1 := w64 (by omega) (by omega)
  have wTj : IntKind.wrap .i64 ((T : Int) + 1 + (j : Int)) = (T : Int) + 1 + (j : Int) := w64 (by omega) (by omega)
  have wr : IntKind.wrap .i64 ((r : Int) + -1) = (r : Int) + -1 := w64 (by omega) (by omega)
  have wjT : IntKind.wrap .i64 ((j : Int) + (T : Int)) = (j : Int) + (T : Int) := w64 (by omega) (by omega)
  have wjT1 : IntKind.wrap .i64 ((j : Int) + (T : Int) + -1) = (j : Int) + (T : Int) + -1 := w64 (by omega) (by omega)
  have hjS : (j : Int).tmod (setsN T K : Int) = ((j % setsN T K : Nat) : Int) := by rw [Int.tmod_eq_emod_of_nonneg (by omega)]; rfl
  obtain ⟨p, rfl⟩ : ∃ p, r = p + 1 := ⟨r - 1, by omega⟩
  have hpT : (p + 1) * T = p * T + T := by rw [Nat.add_mul, Nat.one_mul]
  have hpN : (p + 1) * T + T ≤ N * T := by
    have : (p + 2) * T ≤ N * T := Nat.mul_le_mul_right _ (by omega)
    rw [show p + 2 = p + 1 + 1 from rfl, Nat.add_mul (p + 1) 1 T, Nat.one_mul] at this
    exact this
  have hNT : N * T ≤ 24 * 24 := Nat.mul_le_mul (by omega) t24
  have er : ((p + 1 : Nat) : Int) + -1 = (p : Int) := by omega
  have wpT : IntKind.wrap .i64 ((p : Int) * (T : Int)) = ((p * T : Nat) : Int) := by rw [← Int.natCast_mul]; exact w64 (by omega) (by omega)
  have wrT : IntKind.wrap .i64 (((p + 1 : Nat) : Int) * (T : Int)) = ((p * T + T : Nat) : Int) := by rw [← Int.natCast_mul, hpT]; exact w64 (by omega) (by omega)
  obtain ⟨j', hj'⟩ : ∃ j' : Nat, ((j : Int) + (T : Int) + -1).tmod (T : Int) = (j' : Int) := int_nat (tmod_small (by omega) (by omega)).1
  have hj'v : j' < T ∧ (j' = j - 1 ∧ 1 ≤ j ∨ j = 0 ∧ j' = T - 1) := by
    rw [Int.tmod_eq_emod_of_nonneg (by omega)] at hj'
    by_cases hj0 : j = 0
    · subst hj0
      rw [Int.emod_eq_of_lt (by omega) (by omega)] at hj'
      omega
    · rw [show (j : Int) + (T : Int) + -1 = (j : Int) - 1 + (T : Int) from by omega, Int.add_emod_right, Int.emod_eq_of_lt (by omega) (by omega)] at hj'
      omega
  have hprev : (allRows T K N).getD (((p * T : Nat) : Int) + (j' : Int)).toNat [] = C27.rowW T K (setsN T K) p j' := by
    rw [show (((p * T : Nat) : Int) + (j' : Int)).toNat = p * T + j' from by omega]
    exact rowW_at (by omega) (by omega) hj'v.1
  have hprevS : j + 1 < T → (allRows T K N).getD (((p * T : Nat) : Int) + ((j : Int) + 1)).toNat [] = C27.rowW T K (setsN T K) p (j + 1) := by
    intro h
    rw [show (((p * T : Nat) : Int) + ((j : Int) + 1)).toNat = p * T + (j + 1) from by omega]
    exact rowW_at (by omega) (by omega) h
  have hr0' : ((p + 1 : Nat) : Int) ≠ 0 := by omega
  have wr' : IntKind.wrap .i64 (p : Int) = (p : Int) := w64 (by omega) (by omega)
  rw [er] at wr
  have hew : (T : Int) + 1 + ((if p + 1 ≤ j then j - (p + 1) else j + T - (p + 1) : Nat) : Int) = (T : Int) + 1 + ((if p ≤ j' then j' - p else j' + T - p : Nat) : Int) := by
    split <;> split <;> omega
  simp only [StOk, E.den, BiO.den, UnO.den, TeO.den, List.map_cons, List.map_nil, List.getD_cons_zero, List.getD_cons_succ, Int.toNat_natCast, show Int.toNat 0 = 0 from rfl, show Int.toNat 1 = 1 from rfl, show Int.toNat 2 = 2 from rfl, show Int.toNat 3 = 3 from rfl, show Int.toNat 4 = 4 from rfl, hget, row_c0, row_c1, row_c2, row_c3, row_c4, wi, wj, er, wr, wpT, wrT, wjT, wjT1, hj', hprev, hew, himod, decide_eq_true_eq, decide_eq_false_iff_not, holds_cons_iff, holds_nil_iff, Bool.not_eq_true', Bool.not_eq_false', beq_iff_eq, beq_eq_false_iff_ne]
  refine ⟨⟨by omega, trivial⟩, fun _ => ⟨fun q => (q rfl).elim, fun _ => ⟨fun e3 => ⟨fun q => ?_, fun _ => ⟨fun q => (hr0' q).elim, fun _ => ⟨⟨by omega, by omega, by omega, trivial⟩, fun _ => ⟨fun q => (q rfl).elim, fun _ => ⟨?_, fun _ => ⟨fun q => (q rfl).elim, fun _ => next⟩⟩⟩⟩⟩⟩, fun n3 => (n3 (by omega)).elim⟩⟩⟩
  · rw [if_pos (by omega)] at q; exact (q rfl).elim
  · (repeat' refine And.intro ?_ ?_) <;> first | omega | trivial

set_option maxHeartbeats 800000 in
theorem moves_k {T K N i : Nat} {C : Int} (hk : KindOk T K) (_ : 1 ≤ N) (hN : N ≤ mostN T K) (hi : i < N * T) (hr00 : i / T ≠ 0) (hK : K ≠ 3)
    (next : Runs I27 (tmsLMoves.map Tm.pre) ssLMoves 1 [{ i := (T : Int) }, { i := (N : Int) }, { i := (setsN T K : Int) }, { i := C }, { i := 2 }, { l := allRows T K N }, { i := (K : Int) }, { i := ((N * T : Nat) : Int) }, { i := ((i + 1 : Nat) : Int) }] [{ b := true }]) :
    Runs I27 (tmsLMoves.map Tm.pre) ssLMoves 1 [{ i := (T : Int) }, { i := (N : Int) }, { i := (setsN T K : Int) }, { i := C }, { i := 2 }, { l := allRows T K N }, { i := (K : Int) }, { i := ((N * T : Nat) : Int) }, { i := (i : Int) }] [{ b := true }] := by
  have t2 := hk.t2
  have t24 := hk.t24
  have k3 := hk.k3
  have hmn := mostN_in hk
  have hs := setsN_in hk
  have hlen := allRows_len T K N
  have hsm := allRows_small hk hN
  refine Runs.step rfl ?_ ?_
  · simp only [tmsLMoves, List.map_cons, List.getD_cons_zero, List.getD_cons_succ, holds_cons_iff, E.den, BiO.den, UnO.den, decide_eq_true_eq, beq_iff_eq]
    exact ⟨by omega, by omega, Holds.nil⟩
  refine br_t ?_ ?_
  · simp only [E.den, BiO.den, List.getD_cons_zero, List.getD_cons_succ, decide_eq_true_eq]; omega
  obtain ⟨r, hr⟩ : ∃ r, i / T = r := ⟨_, rfl⟩
  obtain ⟨j, hj⟩ : ∃ j, i % T = j := ⟨_, rfl⟩
  have hjT : j < T := by rw [← hj]; exact Nat.mod_lt _ (by omega)
  have hrN : r < N := by rw [← hr]; exact Nat.div_lt_of_lt_mul (by rw [Nat.mul_comm]; exact hi)
  have hij : i = r * T + j := by rw [← hr, ← hj, Nat.mul_comm]; exact (Nat.div_add_mod i T).symm
  have hget : (allRows T K N).getD i [] = C27.rowW T K (setsN T K) r j := by rw [hij]; exact rowW_at (by omega) hrN hjT
  have himod : (i : Int).tmod (T : Int) = (j : Int) := by rw [Int.tmod_eq_emod_of_nonneg (by omega), ← hj]; rfl
  have wi : IntKind.wrap .i64 ((i : Int) + 1) = ((i + 1 : Nat) : Int) := by rw [w64 (by omega) (by omega)]; omega
  have wj : IntKind.wrap .i64 ((j : Int) + 1) = (j : Int) + 1 := w64 (by omega) (by omega)
  have wT1 : IntKind.wrap .i64 ((T : Int) + 1) = (T : Int) + 1 := w64 (by omega) (by omega)
  have wTj : IntKind.wrap .i64 ((T : Int) + 1 + (j : Int)) = (T : Int) + 1 + (j : Int) := w64 (by omega) (by omega)
  have wr : IntKind.wrap .i64 ((r : Int) + -1) = (r : Int) + -1 := w64 (by omega) (by omega)
  have wjT : IntKind.wrap .i64 ((j : Int) + (T : Int)) = (j : Int) + (T : Int) := w64 (by omega) (by omega)
  have wjT1 : IntKind.wrap .i64 ((j : Int) + (T : Int) + -1) = (j : Int) + (T : Int) + -1 := w64 (by omega) (by omega)
  have hjS : (j : Int).tmod (setsN T K : Int) = ((j % setsN T K : Nat) : Int) := by rw [Int.tmod_eq_emod_of_nonneg (by omega)]; rfl
  obtain ⟨p, rfl⟩ : ∃ p, r = p + 1 := ⟨r - 1, by omega⟩
  have hpT : (p + 1) * T = p * T + T := by rw [Nat.add_mul, Nat.one_mul]
  have hpN : (p + 1) * T + T ≤ N * T := by
    have : (p + 2) * T ≤ N * T := Nat.mul_le_mul_right _ (by omega)
    rw [show p + 2 = p + 1 + 1 from rfl, Nat.add_mul (p + 1) 1 T, Nat.one_mul] at this
    exact this
  have hNT : N * T ≤ 24 * 24 := Nat.mul_le_mul (by omega) t24
  have er : ((p + 1 : Nat) : Int) + -1 = (p : Int) := by omega
  have wpT : IntKind.wrap .i64 ((p : Int) * (T : Int)) = ((p * T : Nat) : Int) := by rw [← Int.natCast_mul]; exact w64 (by omega) (by omega)
  have wrT : IntKind.wrap .i64 (((p + 1 : Nat) : Int) * (T : Int)) = ((p * T + T : Nat) : Int) := by rw [← Int.natCast_mul, hpT]; exact w64 (by omega) (by omega)
  obtain ⟨j', hj'⟩ : ∃ j' : Nat, ((j : Int) + (T : Int) + -1).tmod (T : Int) = (j' : Int) := int_nat (tmod_small (by omega) (by omega)).1
  have hj'v : j' < T ∧ (j' = j - 1 ∧ 1 ≤ j ∨ j = 0 ∧ j' = T - 1) := by
    rw [Int.tmod_eq_emod_of_nonneg (by omega)] at hj'
    by_cases hj0 : j = 0
    · subst hj0
      rw [Int.emod_eq_of_lt (by omega) (by omega)] at hj'
      omega
    · rw [show (j : Int) + (T : Int) + -1 = (j : Int) - 1 + (T : Int) from by omega, Int.add_emod_right, Int.emod_eq_of_lt (by omega) (by omega)] at hj'
      omega
  have hprev : (allRows T K N).getD (((p * T : Nat) : Int) + (j' : Int)).toNat [] = C27.rowW T K (setsN T K) p j' := by
    rw [show (((p * T : Nat) : Int) + (j' : Int)).toNat = p * T + j' from by omega]
    exact rowW_at (by omega) (by omega) hj'v.1
  have hprevS : j + 1 < T → (allRows T K N).getD (((p * T : Nat) : Int) + ((j : Int) + 1)).toNat [] = C27.rowW T K (setsN T K) p (j + 1) := by
    intro h
    rw [show (((p * T : Nat) : Int) + ((j : Int) + 1)).toNat = p * T + (j + 1) from by omega]
    exact rowW_at (by omega) (by omega) h
  have hr0' : ((p + 1 : Nat) : Int) ≠ 0 := by omega
  have wr' : IntKind.wrap .i64 (p : Int) = (p : Int) := w64 (by omega) (by omega)
  rw [er] at wr
  have hew : (T : Int) + 1 + ((if p + 1 ≤ j then j - (p + 1) else j + T - (p + 1) : Nat) : Int) = (T : Int) + 1 + ((if p ≤ j' then j' - p else j' + T - p : Nat) : Int) := by
    split <;> split <;> omega
  simp only [StOk, E.den, BiO.den, UnO.den, TeO.den, List.map_cons, List.map_nil, List.getD_cons_zero, List.getD_cons_succ, Int.toNat_natCast, show Int.toNat 0 = 0 from rfl, show Int.toNat 1 = 1 from rfl, show Int.toNat 2 = 2 from rfl, show Int.toNat 3 = 3 from rfl, show Int.toNat 4 = 4 from rfl, hget, row_c0, row_c1, row_c2, row_c3, row_c4, wi, wj, er, wr, wpT, wrT, wjT, wjT1, hj', hprev, hew, himod, decide_eq_true_eq, decide_eq_false_iff_not, holds_cons_iff, holds_nil_iff, Bool.not_eq_true', Bool.not_eq_false', beq_iff_eq, beq_eq_false_iff_ne]
  refine ⟨⟨by omega, trivial⟩, fun _ => ⟨fun q => (q rfl).elim, fun _ => ⟨fun e3 => (hK (by omega)).elim, fun n3 => ⟨fun q => (hr0' q).elim, fun _ => ⟨⟨by omega, by omega, by omega, trivial⟩, fun _ => ⟨fun q => (q rfl).elim, fun _ => ⟨?_, fun _ => ⟨fun q => (q rfl).elim, fun _ => ⟨fun hlt => ⟨?_, fun _ => ⟨fun q => ?_, fun _ => next⟩⟩, fun _ => next⟩⟩⟩⟩⟩⟩⟩⟩⟩
  · (repeat' refine And.intro ?_ ?_) <;> first | omega | trivial
  · (repeat' refine And.intro ?_ ?_) <;> first | omega | trivial
  · rw [hprevS (by omega), row_c4, if_neg (by omega), if_neg (by omega), show j + (p + 1) = j + 1 + p from by omega] at q
    exact (q rfl).elim

theorem rLMoves {T K N : Nat} {C : Int} (hk : KindOk T K) (h1 : 1 ≤ N) (hN : N ≤ mostN T K) : ∀ f i : Nat, i + f = N * T →
    Runs I27 (tmsLMoves.map Tm.pre) ssLMoves 1 [{ i := (T : Int) }, { i := (N : Int) }, { i := (setsN T K : Int) }, { i := C }, { i := 2 }, { l := allRows T K N }, { i := (K : Int) }, { i := ((N * T : Nat) : Int) }, { i := (i : Int) }] [{ b := true }]
  | 0, i, hf => by
    have hlen := allRows_len T K N
    refine Runs.step rfl ?_ ?_
    · simp only [tmsLMoves, List.map_cons, List.getD_cons_zero, List.getD_cons_succ, holds_cons_iff, E.den, BiO.den, UnO.den, decide_eq_true_eq, beq_iff_eq]
      exact ⟨by omega, by omega, Holds.nil⟩
    refine br_f ?_ rfl
    simp only [E.den, BiO.den, List.getD_cons_zero, List.getD_cons_succ, decide_eq_false_iff_not]; omega
  | f + 1, i, hf => by
    have next := rLMoves (C := C) hk h1 hN f (i + 1) (by omega)
    by_cases h0 : i / T = 0
    · exact moves_0 hk h1 hN (by omega) h0 next
    · by_cases hK : K = 3
      · exact moves_3 hk h1 hN (by omega) h0 hK next
      · exact moves_k hk h1 hN (by omega) h0 hK next

theorem vLMoves1 : cLMoves.Valid (cx [cMade, cAw] [cLMoves.fn]) I27 := by
  refine Ctr.valid_run resp27 (glIn _ _) (allOf (.cons vMade (.cons vAw .nil))) (by decide) (by decide) (by kernel_rfl) rfl sLMoves [.i, .i, .i] [.b] (by decide) ?_
  intro ρ0 hρ hpre _
  obtain ⟨a, b, c, rfl⟩ := three_iii hρ
  have hp := hpre
  simp only [cLMoves, cLFair, u8s, le', List.cons_append, List.nil_append, holds_cons_iff, E.den, BiO.den, List.getD_cons_zero, List.getD_cons_succ, decide_eq_true_eq] at hp
  obtain ⟨a0, a1, b0, b1, c0, c1, _⟩ := hp
  obtain ⟨T, K, N, hm⟩ := made_ok a0 b0 c0
  obtain ⟨q0, q1, q2, q3, q4, q5, q6⟩ := hm.make
  refine ⟨[{ b := true }], Runs.step rfl hpre ?_, rfl⟩
  simp only [StOk, E.den, BiO.den, UnO.den, I27, List.map_cons, List.map_nil, List.getD_cons_zero, List.getD_cons_succ, Nat.reduceSub, hm.eT, hm.eN, hm.eK, q1, q2, q3, q4, q5, q6, allRows_len]
  exact rLMoves hm.kind hm.n1 hm.nm (N * T) 0 (by omega)
theorem vLMoves : ({ cLMoves with outs := [], res := .bool (.bl true) } : Ctr).Valid (cx [cMade, cAw] [cLMoves.fn]) I27 := vLMoves1.said resp27 rfl rfl (by decide)

/-! ### WebWrong -/
theorem vRowsN' : cRowsN.Valid (cx [] []) I27 := re vRowsN
structure WrongOk (v0 v1 v2 v3 v4 v5 v6 v7 v8 : Int) : Prop where
  m1 : 1 ≤ v0
  e0 : v1 = 0
  far : makeE v2 1 v3 = 2
  k0 : 0 ≤ v3 ∧ v3 ≤ 255
  c0 : 0 ≤ v5 ∧ v5 ≤ 255
  b0 : v8 ≤ 0
  n0 : -9223372036854775808 ≤ v2 ∧ v2 ≤ 9223372036854775807
  t : v4 ≠ 25
  a1 : makeE v4 1 v5 = 2
  a2 : makeE v4 1 0 = 2
  a3 : makeE v4 v8 v3 = 2
  a4 : makeE v4 v6 v3 = 5
  a5 : makeE v7 1 1 = if v7 = 25 then 2 else 6
  a6 : makeE v7 0 2 = if v7 = 25 then 2 else 6
theorem make_bad {t r k e : Int} (h : makeE t r k = e) (he : e ≠ 0) : (∀ j, makeF j t r k = 0) ∧ makeR t r k = [] :=
  ⟨fun j => by unfold makeF; rw [if_pos (by rw [h]; exact he)], makeR_no (by rw [h]; exact he)⟩
theorem needs_bad {t r k e : Int} (h : makeE t r k = e) (he : e ≠ 0) : ((makeR t r k).length : Int) = 0 ∧ makeF 0 t r k = 0 ∧ makeF 1 t r k = 0 ∧ makeF 2 t r k = 0 ∧ makeF 3 t r k = 0 ∧ makeF 4 t r k = 0 ∧ True := by
  obtain ⟨a, b⟩ := make_bad h he
  exact ⟨by rw [b]; rfl, a 0, a 1, a 2, a 3, a 4, trivial⟩
theorem rWrong {v0 v1 v2 v3 v4 v5 v6 v7 v8 : Int} (w : WrongOk v0 v1 v2 v3 v4 v5 v6 v7 v8) : ∀ f i : Nat, i + f = 8 →
    Runs I27 (tmsLWrong.map Tm.pre) ssLWrong 1 [{ i := v0 }, { i := v1 }, { i := v2 }, { i := v3 }, { i := v4 }, { i := v5 }, { i := v6 }, { i := v7 }, { i := v8 }, { i := (i : Int) }] [{ b := true }]
  | f, i, hf => by
    obtain ⟨m1, e0, far, k0, c0, b0, n0, ht, a1, a2, a3, a4, a5, a6⟩ := w
    refine Runs.step rfl ?_ ?_
    · simp only [tmsLWrong, List.map_cons, List.getD_cons_zero, List.getD_cons_succ, holds_cons_iff, E.den, BiO.den, decide_eq_true_eq]
      (repeat' refine And.intro ?_ ?_) <;> first | exact Holds.nil | omega | trivial
    by_cases hi : i < 8
    · refine br_t ?_ ?_
      · simp only [E.den, BiO.den, List.getD_cons_zero, List.getD_cons_succ, decide_eq_true_eq]; omega
      have next : Runs I27 (tmsLWrong.map Tm.pre) ssLWrong 1 [{ i := v0 }, { i := v1 }, { i := v2 }, { i := v3 }, { i := v4 }, { i := v5 }, { i := v6 }, { i := v7 }, { i := v8 }, { i := (i : Int) + 1 }] [{ b := true }] := by
        cases f with
        | zero => omega
        | succ f =>
          have := rWrong ⟨m1, e0, far, k0, c0, b0, n0, ht, a1, a2, a3, a4, a5, a6⟩ f (i + 1) (by omega)
          rw [Int.natCast_add, Int.natCast_one] at this
          exact this
      have a7 : makeE 2 1 2 = 6 := by decide
      simp only [StOk, E.den, BiO.den, UnO.den, I27, List.map_cons, List.map_nil, List.getD_cons_zero, List.getD_cons_succ, Nat.reduceSub, beq_iff_eq, beq_eq_false_iff_ne, Bool.not_eq_true', Bool.not_eq_false', holds_cons_iff, holds_nil_iff]
      refine ⟨fun _ => ⟨fun _ => ⟨fun q => (q far).elim, fun _ => ⟨needs_bad far (by decide), fun _ => next⟩⟩, fun _ => ⟨fun q => (q far).elim, fun _ => ⟨needs_bad far (by decide), fun _ => next⟩⟩⟩, fun x0 => ?_⟩
      refine ⟨fun _ => ⟨fun q => (ht q).elim, fun _ => ⟨fun q => (q a1).elim, fun _ => ⟨needs_bad a1 (by decide), fun _ => next⟩⟩⟩, fun x1 => ?_⟩
      refine ⟨fun _ => ⟨fun q => (ht q).elim, fun _ => ⟨fun q => (q a2).elim, fun _ => ⟨needs_bad a2 (by decide), fun _ => next⟩⟩⟩, fun x2 => ?_⟩
      refine ⟨fun _ => ⟨fun q => (ht q).elim, fun _ => ⟨fun q => (q a3).elim, fun _ => ⟨needs_bad a3 (by decide), fun _ => next⟩⟩⟩, fun x3 => ?_⟩
      refine ⟨fun _ => ⟨fun q => (ht q).elim, fun _ => ⟨fun q => (q a4).elim, fun _ => ⟨needs_bad a4 (by decide), fun _ => next⟩⟩⟩, fun x4 => ?_⟩
      refine ⟨fun _ => ⟨fun h25 => ?_, fun h25 => ?_⟩, fun x5 => ?_⟩
      · rw [if_pos h25] at a5
        exact ⟨fun q => (q a5).elim, fun _ => ⟨needs_bad a5 (by decide), fun _ => next⟩⟩
      · rw [if_neg h25] at a5
        exact ⟨fun q => (q a5).elim, fun _ => ⟨needs_bad a5 (by decide), fun _ => next⟩⟩
      refine ⟨fun _ => ⟨fun h25 => ?_, fun h25 => ?_⟩, fun x6 => ?_⟩
      · rw [if_pos h25] at a6
        exact ⟨fun q => (q a6).elim, fun _ => ⟨needs_bad a6 (by decide), fun _ => next⟩⟩
      · rw [if_neg h25] at a6
        exact ⟨fun q => (q a6).elim, fun _ => ⟨needs_bad a6 (by decide), fun _ => next⟩⟩
      exact ⟨fun _ => ⟨fun q => (q a7).elim, fun _ => ⟨needs_bad a7 (by decide), fun _ => next⟩⟩, fun x7 => by omega⟩
    · refine br_f ?_ ?_
      · simp only [E.den, BiO.den, List.getD_cons_zero, List.getD_cons_succ, decide_eq_false_iff_not]; omega
      simp only [StOk, E.den, BiO.den, List.map_cons, List.map_nil, List.getD_cons_zero, List.getD_cons_succ, beq_iff_eq, beq_eq_false_iff_ne]
      exact ⟨fun _ => by rw [decide_eq_true m1], fun q => (q e0).elim⟩

theorem vLWrong1 : cLWrong.Valid (cx [cMade, cMost, cMake, cSameN, cAw] [cLWrong.fn]) I27 := by
  refine Ctr.valid_run resp27 (glIn _ _) (allOf (.cons vMade (.cons vMost (.cons vMake (.cons vSameN (.cons vAw .nil)))))) (by decide) (by decide) (by kernel_rfl) rfl sLWrong [.i, .i, .i] [.b] (by decide) ?_
  intro ρ0 hρ hpre _
  obtain ⟨n, a, c, rfl⟩ := three_iii hρ
  have hp := hpre
  simp only [cLWrong, le', List.cons_append, List.nil_append, holds_cons_iff, E.den, BiO.den, List.getD_cons_zero, List.getD_cons_succ, decide_eq_true_eq] at hp
  obtain ⟨n0, n1, a0, a1, c0, c1, _⟩ := hp
  obtain ⟨T, K, N, hm⟩ := made_ok a0 (Int.le_refl 0) c0
  obtain ⟨q0, q1, q2, q3, q4, q5, q6⟩ := hm.make
  obtain ⟨w1, w2, w3, w4⟩ := way_ok hm.kind
  have t2 := hm.kind.t2
  have t24 := hm.kind.t24
  have k1 := hm.kind.k1
  have k3 := hm.kind.k3
  have hmn := mostN_in hm.kind
  have h252 := tmod_small c0 (show (0 : Int) < 252 by omega)
  have hor := or1 (x := (T : Int)) (by omega) (by omega)
  have e2 : (T : Int).tmod 2 = ((T % 2 : Nat) : Int) := by rw [Int.tmod_eq_emod_of_nonneg (by omega)]; rfl
  rw [e2] at hor
  have ww : IntKind.wrap .i64 ((mostN T K : Int) + 1) = (mostN T K : Int) + 1 := w64 (by omega) (by omega)
  have farE : ∀ t k : Int, (t < 2 ∨ 24 < t ∨ k < 1 ∨ 3 < k) → ∀ r, makeE t r k = 2 := by
    intro t k h r
    have : wayE t k = 2 := by unfold wayE; (repeat' split) <;> omega
    rw [makeE_way (by rw [this]; decide), this]
  have main : ∀ far b8 : Int, (far < 2 ∨ 24 < far) → (-9223372036854775808 ≤ far ∧ far ≤ 9223372036854775807) → b8 ≤ 0 →
      WrongOk (mostN T K) 0 far K T (c.tmod 252 + 4) (if (mostN T K : Int) + 1 > n then (mostN T K : Int) + 1 else n) (if ((T % 2 : Nat) : Int) = 1 then (T : Int) else (T : Int) + 1) b8 := by
    intro far b8 hf hf2 hb8
    refine ⟨by omega, rfl, farE _ _ (by omega) _, ⟨by omega, by omega⟩, ⟨by omega, by omega⟩, hb8, hf2, by omega, farE _ _ (by omega) _, farE _ _ (by omega) _, makeE_less w1 (by omega), makeE_more w1 (by split <;> omega) (by rw [w2]; split <;> omega), ?_, ?_⟩
    · by_cases h25 : (if ((T % 2 : Nat) : Int) = 1 then (T : Int) else (T : Int) + 1) = 25
      · rw [if_pos h25, h25]; exact farE _ _ (by omega) _
      · rw [if_neg h25]
        generalize hx : (if ((T % 2 : Nat) : Int) = 1 then (T : Int) else (T : Int) + 1) = x at h25 ⊢
        have hx2 : 2 ≤ x ∧ x ≤ 24 ∧ x.tmod 2 = 1 := by
          have h1 : 2 ≤ x ∧ x ≤ 24 := by rw [← hx] at h25 ⊢; split <;> (split at h25) <;> omega
          refine ⟨h1.1, h1.2, ?_⟩
          rw [Int.tmod_eq_emod_of_nonneg (by omega), ← hx]; split <;> omega
        have : wayE x 1 = 6 := by unfold wayE; rw [if_neg (by omega), if_pos rfl, if_pos hx2.2.2]
        rw [makeE_way (by rw [this]; decide), this]
    · by_cases h25 : (if ((T % 2 : Nat) : Int) = 1 then (T : Int) else (T : Int) + 1) = 25
      · rw [if_pos h25, h25]; exact farE _ _ (by omega) _
      · rw [if_neg h25]
        generalize hx : (if ((T % 2 : Nat) : Int) = 1 then (T : Int) else (T : Int) + 1) = x at h25 ⊢
        have hx2 : 2 ≤ x ∧ x ≤ 24 ∧ x.tmod 2 = 1 := by
          have h1 : 2 ≤ x ∧ x ≤ 24 := by rw [← hx] at h25 ⊢; split <;> (split at h25) <;> omega
          refine ⟨h1.1, h1.2, ?_⟩
          rw [Int.tmod_eq_emod_of_nonneg (by omega), ← hx]; split <;> omega
        have : wayE x 2 = 6 := by unfold wayE; rw [if_neg (by omega), if_neg (by decide), if_pos rfl, if_pos (Or.inr hx2.2.2)]
        rw [makeE_way (by rw [this]; decide), this]
  refine ⟨[{ b := true }], Runs.step rfl hpre ?_, rfl⟩
  simp only [StOk, E.den, BiO.den, UnO.den, I27, List.map_cons, List.map_nil, List.getD_cons_zero, List.getD_cons_succ, Nat.reduceSub, hm.eT, hm.eN, hm.eK, q1, w1, w2, ww, hor, decide_eq_true_eq, decide_eq_false_iff_not]
  refine ⟨fun x1 => ⟨fun x2 => ?_, fun x2 => ?_⟩, fun x1 => ?_⟩
  · exact rWrong (main (n + 24) 0 (by omega) ⟨by omega, by omega⟩ (by omega)) 8 0 (by omega)
  · exact rWrong (main n 0 (by omega) ⟨by omega, by omega⟩ (by omega)) 8 0 (by omega)
  · exact rWrong (main n (if 0 < n then 0 else n) (by omega) ⟨by omega, by omega⟩ (by split <;> omega)) 8 0 (by omega)
theorem vLWrong : ({ cLWrong with outs := [], res := .bool (.bl true) } : Ctr).Valid (cx [cMade, cMost, cMake, cSameN, cAw] [cLWrong.fn]) I27 := vLWrong1.said resp27 rfl rfl (by decide)
end Go.Proofs.Ytiohgpifeamkhaa
