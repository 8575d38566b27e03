/- Chapter 25: what is said of the movements that are made. -/
import Derived.Test.YtbknfmmoniammaaC25Z
namespace Go.Proofs.Ytbknfmmoniammaa
open Go Go.Sx Go.Proofs.C25

structure KindOk (T K : Nat) : Prop where
  t2 : 2 ≤ T
  t24 : T ≤ 24
  k3 : K ≤ 3
  odd : K ≤ 1 → T % 2 = 1
  even : 1 < K → T % 2 = 0
  rov : K = 0 → T % 3 ≠ 0
theorem KindOk.fair {T K : Nat} (h : KindOk T K) : fairChk T K = true := by
  obtain ⟨t2, t24, k3, od, ev, rv⟩ := h
  match K, k3 with
  | 0, _ =>
    have := List.all_eq_true.1 fair_0 ((T - 3) / 2) (List.mem_range.2 (by omega))
    have ot := od (by omega)
    rw [show 2 * ((T - 3) / 2) + 3 = T from by omega] at this
    rw [Bool.or_eq_true] at this
    rcases this with h | h
    · exact (rv rfl (beq_iff_eq.1 h)).elim
    · exact h
  | 1, _ =>
    have := List.all_eq_true.1 fair_1 ((T - 3) / 2) (List.mem_range.2 (by omega))
    have ot := od (by omega)
    rwa [show 2 * ((T - 3) / 2) + 3 = T from by omega] at this
  | 2, _ =>
    have := List.all_eq_true.1 fair_2 ((T - 2) / 2) (List.mem_range.2 (by omega))
    have ot := ev (by omega)
    rwa [show 2 * ((T - 2) / 2) + 2 = T from by omega] at this
  | 3, _ =>
    have := List.all_eq_true.1 fair_3 ((T - 2) / 2) (List.mem_range.2 (by omega))
    have ot := ev (by omega)
    rwa [show 2 * ((T - 2) / 2) + 2 = T from by omega] at this

def kOf (K : Nat) : Nat := if K = 0 then 1 else K
def copies (K : Nat) : Nat := if K = 3 then 2 else 1
theorem way_ok {T K : Nat} (h : KindOk T K) : wayE T (kOf K) = 0 ∧ mostV T (kOf K) = mostN T K := by
  obtain ⟨t2, t24, k3, od, ev, rv⟩ := h
  have hk : 1 ≤ kOf K ∧ kOf K ≤ 3 := by unfold kOf; split <;> omega
  have hw : ((kOf K : Int) = 1) ↔ ((T : Int).tmod 2 = 1) := by
    rw [Int.tmod_eq_emod_of_nonneg (by omega)]
    unfold kOf
    constructor
    · intro h
      have : T % 2 = 1 := od (by split at h <;> omega)
      omega
    · intro h
      by_cases hK : 1 < K
      · have := ev hK; omega
      · split <;> omega
  have := way_yes (t := (T : Int)) (k := (kOf K : Nat)) (by omega) (by omega) (by omega) (by omega) hw
  refine ⟨this.1, this.2.trans ?_⟩
  unfold mostN kOf
  split <;> split <;> (try split) <;> omega
theorem make_full {T K N : Nat} (h : KindOk T K) (h1 : 1 ≤ N) (hN : N ≤ mostN T K) : makeE T N (kOf K) = 0 :=
  makeE_ok (way_ok h).1 (by omega) (by rw [(way_ok h).2]; omega)
theorem mostN_le (T K : Nat) : mostN T K ≤ T := by unfold mostN; split <;> omega

/-- what a made movement is, be it made by Make or by Rover -/
theorem make_k {T K N : Nat} (h : KindOk T K) (h0 : K ≠ 0) (h1 : 1 ≤ N) (hN : N ≤ mostN T K) :
    makeE T N K = 0 ∧ makeF 0 T N K = T ∧ makeF 1 T N K = N ∧ makeF 2 T N K = T ∧ makeF 3 T N K = copies K ∧ makeF 4 T N K = 2 ∧ makeR T N K = fullR T K N := by
  have hE := make_full h h1 hN
  rw [show kOf K = K from by unfold kOf; rw [if_neg h0]] at hE
  refine ⟨hE, ?_, ?_, ?_, ?_, ?_, ?_⟩
  · unfold makeF; rw [if_neg (fun q => q hE)]; rfl
  · unfold makeF; rw [if_neg (fun q => q hE)]; rfl
  · unfold makeF; rw [if_neg (fun q => q hE)]; rfl
  · unfold makeF; rw [if_neg (fun q => q hE)]; unfold copies
    show (if (K : Int) = 3 then (2 : Int) else 1) = _
    split <;> split <;> omega
  · unfold makeF; rw [if_neg (fun q => q hE)]; rfl
  · rw [makeR_ok hE]; unfold fullR; rw [if_neg h0]; rfl
theorem make_r {T N : Nat} (h : KindOk T 0) (h1 : 1 ≤ N) (hN : N ≤ T) :
    roverE T N = 0 ∧ roverF 0 T N = T ∧ roverF 1 T N = N ∧ roverF 2 T N = T ∧ roverF 3 T N = copies 0 ∧ roverF 4 T N = 2 ∧ roverR T N = fullR T 0 N := by
  have hE : makeE T N 1 = 0 := make_full h h1 hN
  have hR : roverE T N = 0 := by
    unfold roverE
    rw [if_neg, hE]
    rintro ⟨_, q⟩
    rw [Int.tmod_eq_emod_of_nonneg (by omega)] at q
    have := h.rov rfl
    omega
  refine ⟨hR, ?_, ?_, ?_, ?_, ?_, ?_⟩
  · unfold roverF; rw [if_neg (fun q => q hR)]; unfold makeF; rw [if_neg (fun q => q hE)]; rfl
  · unfold roverF; rw [if_neg (fun q => q hR)]; unfold makeF; rw [if_neg (fun q => q hE)]; rfl
  · unfold roverF; rw [if_neg (fun q => q hR)]; unfold makeF; rw [if_neg (fun q => q hE)]; rfl
  · unfold roverF; rw [if_neg (fun q => q hR)]; unfold makeF; rw [if_neg (fun q => q hE)]; rfl
  · unfold roverF; rw [if_neg (fun q => q hR)]; unfold makeF; rw [if_neg (fun q => q hE)]; rfl
  · unfold roverR; rw [if_neg (fun q => q hR), makeR_ok hE]; unfold fullR; rw [if_pos rfl]; rfl

structure MadeOk (a b c : Int) (T K N : Nat) : Prop where
  kind : KindOk T K
  n1 : 1 ≤ N
  nm : N ≤ mostN T K
  eK : madeK a c = K
  f0 : madeF 0 a b c = T
  f1 : madeF 1 a b c = N
  f2 : madeF 2 a b c = T
  f3 : madeF 3 a b c = copies K
  f4 : madeF 4 a b c = 2
  r : madeR a b c = fullR T K N

theorem made_ok {a b c : Int} (a0 : 0 ≤ a) (b0 : 0 ≤ b) (c0 : 0 ≤ c) : ∃ T K N : Nat, MadeOk a b c T K N := by
  have hT0 := tmod_small a0 (show (0 : Int) < 23 by omega)
  have hc4 := tmod_small c0 (show (0 : Int) < 4 by omega)
  have t2 : 2 ≤ madeT0 a ∧ madeT0 a ≤ 24 := by unfold madeT0; omega
  have hKr : 0 ≤ madeK a c ∧ madeK a c ≤ 3 := by unfold madeK; split <;> omega
  have hm2 : (madeT0 a).tmod 2 = madeT0 a % 2 := Int.tmod_eq_emod_of_nonneg (by omega)
  have hm6 : (madeT0 a).tmod 6 = madeT0 a % 6 := Int.tmod_eq_emod_of_nonneg (by omega)
  have hK0 : madeK a c = 0 → madeT0 a % 6 = 1 ∨ madeT0 a % 6 = 5 := by
    unfold madeK
    rw [hm6]
    intro h
    split at h
    · cases h
    · omega
  obtain ⟨K, hK⟩ := int_nat hKr.1
  have hT : 2 ≤ madeT a c ∧ madeT a c ≤ 24 ∧ (madeK a c ≤ 1 → madeT a c % 2 = 1) ∧ (1 < madeK a c → madeT a c % 2 = 0) ∧ (madeK a c = 0 → madeT a c % 3 ≠ 0) := by
    unfold madeT
    rw [hm2]
    by_cases k0 : madeK a c = 0
    · rw [if_pos k0]; have := hK0 k0; omega
    · rw [if_neg k0]
      by_cases k1 : madeK a c = 1
      · rw [if_pos k1]; split
        · omega
        · split <;> omega
      · rw [if_neg k1]; omega
  obtain ⟨T, eT⟩ := int_nat (x := madeT a c) (by omega)
  rw [eT] at hT
  have hk : KindOk T K := ⟨by omega, by omega, by omega, by omega, by omega, by omega⟩
  have hk' : (if madeK a c < 1 then 1 else madeK a c) = kOf K := by rw [hK]; unfold kOf; split <;> split <;> omega
  have hmost : madeM a c = mostN T K := by unfold madeM; rw [eT, hk']; exact (way_ok hk).2
  have hm1 : 1 ≤ mostN T K := by have := hk.t2; unfold mostN; split <;> omega
  have hN : madeN a b c = 1 + b.tmod (mostN T K : Int) := by unfold madeN; rw [hmost, if_neg (by omega)]
  have hbm := tmod_small b0 (show (0 : Int) < (mostN T K : Int) by omega)
  obtain ⟨N, eN⟩ := int_nat (x := madeN a b c) (by omega)
  have h1 : 1 ≤ N := by omega
  have h2 : N ≤ mostN T K := by omega
  refine ⟨T, K, N, ?_⟩
  by_cases k0 : K = 0
  · subst k0
    have hK' : madeK a c = 0 := hK
    obtain ⟨_, f0, f1, f2, f3, f4, r⟩ := make_r hk h1 h2
    refine ⟨hk, h1, h2, hK, ?_, ?_, ?_, ?_, ?_, ?_⟩ <;> (first | unfold madeF | unfold madeR) <;> rw [if_pos hK', eT, eN] <;> assumption
  · have hK' : madeK a c ≠ 0 := by omega
    obtain ⟨_, f0, f1, f2, f3, f4, r⟩ := make_k hk k0 h1 h2
    refine ⟨hk, h1, h2, hK, ?_, ?_, ?_, ?_, ?_, ?_⟩ <;> (first | unfold madeF | unfold madeR) <;> rw [if_neg hK', eT, eN, hK] <;> assumption

theorem MadeOk.fair {a b c : Int} {T K N : Nat} (h : MadeOk a b c T K N) : FairM T N T (copies K) (fullR T K N) := by
  have := fair_full (N := N) h.kind.fair h.nm
  unfold copies
  rw [show (((if K = 3 then 2 else 1 : Nat)) : Int) = if K = 3 then 2 else 1 from by split <;> rfl]
  exact this
theorem fullR_small {T K N : Nat} (h : KindOk T K) (hN : N ≤ mostN T K) : (fullR T K N).length ≤ 576 := by
  rw [fullR_len]
  have := mostN_le T K
  have := h.t24
  exact Nat.mul_le_mul (show N ≤ 24 by omega) (show T ≤ 24 by omega)

/-! ### MitchellMakes -/
theorem vLMakes1 : cLMakes.Valid (cx [cMakes, cAw] []) I25 := by
  refine Ctr.valid_run resp25 (glIn _ _) (allOf (.cons vMakes (.cons vAw .nil))) (by decide) (by decide) (by kernel_rfl) rfl sLMakes [.i, .i, .i] [.b] (by decide) ?_
  intro ρ0 hρ hpre _
  obtain ⟨t, r, k, rfl⟩ := three_iii hρ
  exact ⟨[{ b := true }], Runs.step rfl hpre rfl, rfl⟩
end Go.Proofs.Ytbknfmmoniammaa
