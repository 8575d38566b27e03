/- Chapter 25: MitchellFair. -/
import Derived.Test.YtbknfmmoniammaaC25Za
namespace Go.Proofs.Ytbknfmmoniammaa
open Go Go.Sx Go.Proofs.C25

theorem rowsM_get {T K : Nat} (hT : 0 < T) : ∀ (N i : Nat), i < N * T → (rowsM T K N).getD i [] = rowM T K (i / T) (i % T)
  | 0, i, h => by omega
  | N + 1, i, h => by
    have hl := rowsM_len T K N
    rw [rowsM_succ]
    by_cases hi : i < N * T
    · rw [List.getD_eq_getElem?_getD, List.getElem?_append_left (by omega), ← List.getD_eq_getElem?_getD]
      exact rowsM_get hT N i hi
    · obtain ⟨j, rfl⟩ : ∃ j, i = N * T + j := ⟨i - N * T, by omega⟩
      have hj : j < T := by rw [Nat.add_mul] at h; omega
      rw [List.getD_eq_getElem?_getD, List.getElem?_append_right (by omega), hl, Nat.add_sub_cancel_left]
      rw [List.getElem?_map, List.getElem?_range hj]
      rw [Nat.add_comm (N * T) j, Nat.add_mul_div_right _ _ hT, Nat.add_mul_mod_self_right, Nat.div_eq_of_lt hj, Nat.mod_eq_of_lt hj, Nat.zero_add]
      rfl
theorem map_getD {f : List Int → List Int} {l : List (List Int)} {i : Nat} (h : i < l.length) : (l.map f).getD i [] = f (l.getD i []) := by
  simp [List.getD_eq_getElem?_getD, h]
theorem fullR_get {T K N i : Nat} (hT : 0 < T) (hi : i < N * T) : ((fullR T K N).getD i []).getD 0 0 = (i / T : Nat) ∧ ((fullR T K N).getD i []).getD 1 0 = (i % T : Nat) := by
  unfold fullR
  split
  · have h := rowsM_get (K := 1) hT N i hi
    have hl := rowsM_len T 1 N
    rw [map_getD (by omega), roverRow_c (by decide), roverRow_c (by decide), h]
    exact ⟨rfl, rfl⟩
  · rw [rowsM_get hT N i hi]; exact ⟨rfl, rfl⟩
theorem fullR_in {T K N i : Nat} (hi : i < N * T) : (fullR T K N).getD i [] ∈ fullR T K N := by
  rw [List.getD_eq_getElem?_getD, List.getElem?_eq_getElem (by rw [fullR_len]; exact hi)]
  exact List.getElem_mem _

/-! ### without one of the pairs -/
theorem nums_seats (m : List (List Int)) : nums (seats m) = m.flatMap fun r => [r.getD 2 0, r.getD 3 0] := by
  unfold nums seats
  rw [List.map_flatMap]
  rfl
theorem seats_less (p : Int) (m : List (List Int)) : nums (seats (m.map (lessRow p))) = (nums (seats m)).map fun x => if x = p then 0 else x := by
  rw [nums_seats, nums_seats, List.flatMap_map, List.map_flatMap]
  rfl
theorem sortU_less {l : List Int} {p : Int} : sortU (l.map fun x => if x = p then 0 else x) = (sortU l).erase p := by
  have hlt := sortU_lt l
  have hnd : (sortU l).Nodup := hlt.imp (fun h => by omega)
  refine sortU_eq (hlt.sublist List.erase_sublist) fun x => ?_
  rw [hnd.mem_erase_iff, sortU_mem, List.mem_map]
  constructor
  · rintro ⟨hp, h1, h2⟩
    exact ⟨h1, x, h2, by rw [if_neg hp]⟩
  · rintro ⟨h1, y, hy, rfl⟩
    by_cases h : y = p
    · rw [if_pos h] at h1; omega
    · rw [if_neg h] at h1 ⊢
      exact ⟨h, h1, hy⟩
def pairs (m : List (List Int)) : List Int := sortU (nums (seats m))
theorem pairs_nodup (m : List (List Int)) : (pairs m).Nodup := (sortU_lt _).imp (fun h => by omega)
theorem srtLen_pairs (m : List (List Int)) : srtLen (seats m) = ((pairs m).length : Int) := rfl
theorem srtAll_get {m : List (List Int)} {i : Nat} (h : i < (pairs m).length) : ((srtAll (seats m)).getD i []).getD 0 0 = (pairs m)[i] := by
  have e : (srtAll (seats m)).getD i [] = (ones (pairs m)).getD i [] := by
    unfold srtAll
    rw [List.getD_eq_getElem?_getD, List.getElem?_append_left (by rw [ones_len]; exact h), ← List.getD_eq_getElem?_getD]
    rfl
  rw [e, get_ones, List.getD_eq_getElem?_getD, List.getElem?_eq_getElem h]; rfl
theorem hasP_pairs (m : List (List Int)) (p : Int) : hasP m p = (pairs m).contains p := hasP_eq m p
theorem pairs_less (m : List (List Int)) (p : Int) : pairs (m.map (lessRow p)) = (pairs m).erase p := by
  unfold pairs
  rw [seats_less, sortU_less]
theorem pairs_len (m : List (List Int)) : (pairs m).length ≤ 2 * m.length := by
  have := sortU_len (nums (seats m))
  rw [nums_len, seats_len] at this
  exact this
theorem lessE_ok {m : List (List Int)} {p : Int} (h : p ∈ pairs m) : lessE m p = 0 ∧ lessR m p = m.map (lessRow p) := by
  have hp : hasP m p = true := by rw [hasP_pairs]; exact List.contains_iff_mem.2 h
  exact ⟨by unfold lessE; rw [if_pos hp], by unfold lessR; rw [if_pos hp]⟩

theorem fair_exit {a b c v0 : Int} {T K N : Nat} (hm : MadeOk a b c T K N) (h0 : 0 ≤ v0) :
    ∃ (p : Int), ((srtAll (seats (fullR T K N))).getD (v0.tmod (srtLen (seats (fullR T K N)))).toNat []).getD 0 0 = p ∧ p ∈ pairs (fullR T K N) ∧ 0 < srtLen (seats (fullR T K N)) ∧ srtLen (seats (fullR T K N)) ≤ 2000 ∧
      0 ≤ v0.tmod (srtLen (seats (fullR T K N))) ∧ v0.tmod (srtLen (seats (fullR T K N))) < srtLen (seats (fullR T K N)) := by
  have hl := fullR_small hm.kind hm.nm
  have hpl := pairs_len (fullR T K N)
  have hne : 0 < (pairs (fullR T K N)).length := by
    have hTN : 0 < N * T := Nat.mul_pos hm.n1 (by have := hm.kind.t2; omega)
    have hin := fullR_in (K := K) hTN
    obtain ⟨r, j, _, _, _, _, _, h3, _⟩ := fullR_mem hin
    have : (((fullR T K N).getD 0 []).getD 3 0) ∈ pairs (fullR T K N) := by
      unfold pairs
      rw [sortU_mem, nums_seats, List.mem_flatMap]
      exact ⟨by omega, _, hin, by simp⟩
    exact List.length_pos_of_mem this
  rw [srtLen_pairs]
  have hmod := tmod_small h0 (show (0 : Int) < ((pairs (fullR T K N)).length : Int) by omega)
  have hlt : (v0.tmod ((pairs (fullR T K N)).length : Int)).toNat < (pairs (fullR T K N)).length := by omega
  exact ⟨_, srtAll_get hlt, List.getElem_mem _, by omega, by omega, hmod.1, hmod.2⟩

theorem rLFair1 {a b c v0 : Int} {T K N : Nat} (hm : MadeOk a b c T K N) (h0 : 0 ≤ v0) (h255 : v0 ≤ 255) : ∀ f i : Nat, i + f = (fullR T K N).length →
    Runs I25 (tmsLFair.map Tm.pre) ssLFair 1 [{ i := v0 }, { i := (T : Int) }, { i := (N : Int) }, { i := (T : Int) }, { i := (copies K : Int) }, { i := 2 }, { l := fullR T K N }, { i := ((fullR T K N).length : Int) }, { i := (i : Int) }] [{ b := true }]
  | f, i, hf => by
    have hl := fullR_small hm.kind hm.nm
    have hlen := fullR_len T K N
    have t2 := hm.kind.t2
    have t24 := hm.kind.t24
    have hcp : (copies K : Int) ≤ 2 ∧ 0 ≤ (copies K : Int) := by unfold copies; split <;> omega
    refine Runs.step rfl ?_ ?_
    · simp only [tmsLFair, List.map_cons, List.getD_cons_zero, List.getD_cons_succ, holds_cons_iff, E.den, BiO.den, UnO.den, decide_eq_true_eq, beq_iff_eq]
      (repeat' refine And.intro ?_ ?_) <;> first | exact Holds.nil | omega | trivial
    · simp only [StOk, E.den, BiO.den, UnO.den, TeO.den, I25, List.map_cons, List.map_nil, List.getD_cons_zero, List.getD_cons_succ, Int.toNat_natCast, show Int.toNat 0 = 0 from rfl, show Int.toNat 1 = 1 from rfl, show Int.toNat 2 = 2 from rfl, show Int.toNat 3 = 3 from rfl, decide_eq_true_eq, decide_eq_false_iff_not, holds_cons_iff, holds_nil_iff, Bool.not_eq_true', beq_iff_eq, beq_eq_false_iff_ne]
      refine ⟨fun hlt => ?_, fun hge => ?_⟩
      · have hi : i < N * T := by omega
        have hrow := fullR_mem (fullR_in (K := K) hi)
        obtain ⟨r, j, _, _, _, _, _, h3, _, h2⟩ := hrow
        have hg := fullR_get (K := K) (show 0 < T by omega) hi
        rw [hg.1, hg.2, Int.tdiv_eq_ediv_of_nonneg (by omega), Int.tmod_eq_emod_of_nonneg (by omega), w64 (x := (i : Int) / (T : Int)) (by omega) (by
          have : i / T ≤ i := Nat.div_le_self i T
          have e : (i : Int) / (T : Int) = ((i / T : Nat) : Int) := rfl
          omega), w64 (x := (i : Int) + 1) (by omega) (by omega)]
        refine ⟨⟨by omega, trivial⟩, fun _ => ⟨fun q => (q rfl).elim, fun _ => ⟨fun q => (q rfl).elim, fun _ => ⟨fun q => by omega, fun _ => ⟨⟨by omega, by omega, trivial⟩, fun _ => ⟨fun q => by omega, fun _ => ?_⟩⟩⟩⟩⟩⟩
        cases f with
        | zero => omega
        | succ f =>
          have := rLFair1 hm h0 h255 f (i + 1) (by omega)
          rw [Int.natCast_add, Int.natCast_one] at this
          exact this
      · obtain ⟨p, hp, hin, q1, q2, q3, q4⟩ := fair_exit hm h0
        have hsl := srtAll_len (seats (fullR T K N))
        have hsl2 := srtLen_le (seats (fullR T K N))
        rw [hp]
        obtain ⟨e1, e2⟩ := lessE_ok hin
        rw [e1, e2]
        have hless : (fullR T K N).map (lessRow p) = (fullR T K N).map (lessRow p) := rfl
        have hF := FairM.less hm.fair p
        have hpl := pairs_less (fullR T K N) p
        have hlen2 : srtLen (seats ((fullR T K N).map (lessRow p))) = srtLen (seats (fullR T K N)) + -1 := by
          rw [srtLen_pairs, hpl, List.length_erase_of_mem hin, srtLen_pairs]
          have := List.length_pos_of_mem hin
          omega
        have hsl3 := srtAll_len (seats ((fullR T K N).map (lessRow p)))
        have hsl4 := srtLen_le (seats ((fullR T K N).map (lessRow p)))
        have hsl5 := seats_len ((fullR T K N).map (lessRow p))
        have hno : hasN (srtAll (seats ((fullR T K N).map (lessRow p)))) (srtLen (seats ((fullR T K N).map (lessRow p)))).toNat p = false := by
          rw [has_srt]
          show (pairs ((fullR T K N).map (lessRow p))).contains p = false
          rw [hpl, ← Bool.not_eq_true, List.contains_iff_mem, (pairs_nodup _).mem_erase_iff]
          exact fun q => q.1 rfl
        rw [List.length_map] at hsl5
        refine ⟨⟨by omega, trivial⟩, fun _ => ⟨⟨by omega, trivial⟩, fun _ => ⟨⟨q3, q4, trivial⟩, fun _ => ⟨⟨by omega, trivial⟩, fun _ => ⟨fun _ => ⟨fun _ => ⟨⟨?_, trivial⟩, fun _ => ⟨fun _ => ⟨⟨?_, ?_, ?_, trivial⟩, fun _ => ?_⟩, fun q => ?_⟩⟩, fun q => ?_⟩, fun q => (q rfl).elim⟩⟩⟩⟩⟩
        · exact fairP_iff.2 hF
        · rw [hlen2]; omega
        · omega
        · omega
        · rw [hno]; rfl
        · exfalso; apply q; rw [hlen2, w64 (by omega) (by omega)]
        · exfalso; apply q; rw [List.length_map]

theorem vLFair1 : cLFair.Valid (cx [cMade, cFair, cPairs, cWithout, cHas, cAw] [4]) I25 := by
  refine Ctr.valid_run resp25 (glIn _ _) (allOf (.cons vMade (.cons vFair (.cons vPairs (.cons vWithout (.cons vHas (.cons vAw .nil))))))) (by decide) (by decide) (by kernel_rfl) rfl sLFair [.i, .i, .i, .i] [.b] (by decide) ?_
  intro ρ0 hρ hpre _
  obtain ⟨a, b, c, v0, rfl⟩ := four_iiii hρ
  have hp := hpre
  simp only [cLFair, u8s, le', List.cons_append, List.nil_append, holds_cons_iff, E.den, BiO.den, List.getD_cons_zero, List.getD_cons_succ, decide_eq_true_eq] at hp
  obtain ⟨a0, a1, b0, b1, c0, c1, d0, d1, _⟩ := hp
  obtain ⟨T, K, N, hm⟩ := made_ok a0 b0 c0
  have hl := fullR_small hm.kind hm.nm
  have hlen := fullR_len T K N
  have t2 := hm.kind.t2
  have t24 := hm.kind.t24
  have h1 := hm.n1
  have hTN : (T : Int) * (N : Int) = ((fullR T K N).length : Int) := by rw [hlen, Int.natCast_mul, Int.mul_comm]
  refine ⟨[{ b := true }], Runs.step rfl hpre ?_, rfl⟩
  simp only [StOk, E.den, BiO.den, UnO.den, I25, List.map_cons, List.map_nil, List.getD_cons_zero, List.getD_cons_succ, hm.f0, hm.f1, hm.f2, hm.f3, hm.f4, hm.r, hTN, decide_eq_true_eq, decide_eq_false_iff_not, holds_cons_iff, holds_nil_iff, Bool.not_eq_true', beq_eq_false_iff_ne]
  rw [w64 (x := ((fullR T K N).length : Int)) (by omega) (by omega)]
  refine ⟨fun q => (q rfl).elim, fun _ => ⟨fun q => by omega, fun _ => ⟨fun q => by omega, fun _ => ⟨fun q => (q rfl).elim, fun _ => ⟨⟨by omega, fairP_iff.2 hm.fair, trivial⟩, fun _ => ?_⟩⟩⟩⟩⟩
  exact rLFair1 hm d0 d1 (fullR T K N).length 0 (by omega)
theorem vLFair : ({ cLFair with outs := [], res := .bool (.bl true) } : Ctr).Valid (cx [cMade, cFair, cPairs, cWithout, cHas, cAw] [4]) I25 := vLFair1.said resp25 rfl rfl (by decide)
theorem vLMakes : ({ cLMakes with outs := [], res := .bool (.bl true) } : Ctr).Valid (cx [cMakes, cAw] []) I25 := vLMakes1.said resp25 rfl rfl (by decide)
end Go.Proofs.Ytbknfmmoniammaa
