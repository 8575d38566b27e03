/- Chapter 26: HowellStrong. -/
import Derived.Test.YtohelfcinfpmaaaC26Z
namespace Go.Proofs.Ytohelfcinfpmaaa
open Go Go.Sx Go.Proofs.C26

def startFacts (t : Int) : Bool := decide (startE t = 0) && decide (checkE (2 * t + -1) (startL t) = 0) && (checkS (2 * t + -1) (startL t) == hasP t) && ((primeV t == 2 * t + -1) == hasP t) && decide (((startL t).length : Int) = t + -1)
theorem start_facts : ((List.range 23).all fun m => startFacts ((m : Int) + 2)) = true := by kernel_rfl

structure StartOk (t : Int) : Prop where
  e : startE t = 0
  c : checkE (2 * t + -1) (startL t) = 0
  s : checkS (2 * t + -1) (startL t) = hasP t
  p : (primeV t == 2 * t + -1) = hasP t
  l : ((startL t).length : Int) = t + -1
theorem start_ok {t : Int} (h2 : 2 ≤ t) (h24 : t ≤ 24) : StartOk t := by
  have := List.all_eq_true.1 start_facts (t.toNat - 2) (List.mem_range.2 (by omega))
  rw [show (((t.toNat - 2 : Nat) : Int) + 2) = t from by omega] at this
  simp only [startFacts, Bool.and_eq_true, decide_eq_true_eq, beq_iff_eq] at this
  exact ⟨this.1.1.1.1, this.1.1.1.2, this.1.1.2, this.1.2, this.2⟩

theorem make_F {t k : Int} (h : startE t = 0) (j : Nat) : makeF j t k = fromF j (2 * t + -1) k (startL t) := by
  unfold makeF
  rw [if_neg (fun e => e h)]
  rfl
theorem make_R {t k : Int} (h : startE t = 0) : makeR t k = fromR (2 * t + -1) k (startL t) := by
  unfold makeR
  rw [if_neg (fun e => e h)]
  rfl
theorem make_E {t k : Int} (h : startE t = 0) : makeE t k = fromE (2 * t + -1) k (startL t) := by
  unfold makeE
  rw [if_neg (fun e => e h)]
  rfl
theorem from_E {n k : Int} {l : List (List Int)} (h : checkE n l = 0) (h1 : 1 ≤ k) (h2 : k ≤ n) : fromE n k l = 0 := by
  unfold fromE
  rw [if_neg (fun e => e h), if_neg (by omega), if_neg (by omega)]

theorem vStrong1 : cLStrong.Valid (cx [cPrimeT, cStart, cCheck, cMake, cFrom, cKSame, cKAw] [5]) I26 := by
  refine Ctr.valid_run resp26 (glIn _ _) (allOf (.cons (re vPrimeT) (.cons (re vStart) (.cons (re vCheck) (.cons (re vMake) (.cons (re vFrom) (.cons (re vKSame) (.cons (re vKAw) .nil)))))))) (by decide) (by decide) (by kernel_rfl) rfl sLStrong [.i, .i] [.b] (by decide) ?_
  intro ρ0 hρ hpre _
  obtain ⟨a, b, rfl⟩ := two_ii hρ
  have hp := hpre
  simp only [cLStrong, cLMeets, le', List.cons_append, List.nil_append, holds_cons_iff, E.den, BiO.den, List.getD_cons_zero, List.getD_cons_succ, decide_eq_true_eq] at hp
  obtain ⟨a0, a1, b0, b1, _⟩ := hp
  refine ⟨[{ b := true }], Runs.step rfl hpre ?_, rfl⟩
  simp only [StOk, E.den, BiO.den, UnO.den, I26, List.map_cons, List.map_nil, List.getD_cons_zero, List.getD_cons_succ, holds_cons_iff, holds_nil_iff, decide_eq_true_eq, Bool.not_eq_true', beq_iff_eq, beq_eq_false_iff_ne]
  have hm := tmod_small a0 (show (0 : Int) < 23 by omega)
  generalize a.tmod 23 = q at hm ⊢
  have hk := tmod_small b0 (show (0 : Int) < 2 * (q + 2) + -1 by omega)
  generalize b.tmod (2 * (q + 2) + -1) = k at hk ⊢
  rw [w64 (show _ ≤ k + 1 by omega) (by omega)]
  have ok := start_ok (t := q + 2) (by omega) (by omega)
  have hfE := from_E (k := k + 1) ok.c (by omega) (by omega)
  have hlen := makeR_len (q + 2) (k + 1)
  have hl := ok.l
  rw [make_E ok.e, ok.e, ok.c, ok.s, ok.p, hfE]
  refine ⟨⟨by omega, trivial⟩, fun _ => ⟨⟨by omega, trivial⟩, fun _ => ⟨fun _ => ⟨fun _ => ⟨fun _ => ⟨fun _ => ⟨?_, fun _ => trivial⟩, fun h => ?_⟩, fun h => ?_⟩, fun h => ?_⟩, fun h => ?_⟩⟩⟩
  · refine ⟨by omega, make_F ok.e _, make_F ok.e _, make_F ok.e _, make_F ok.e _, make_F ok.e _, ?_, trivial⟩
    rw [make_R ok.e]
    exact eqR_refl _ _
  · omega
  · simp at h
  · simp at h
  · exact (h (by decide)).elim

theorem vStrong : ({ cLStrong with outs := [], res := .bool (.bl true) } : Ctr).Valid (cx [cPrimeT, cStart, cCheck, cMake, cFrom, cKSame, cKAw] [5]) I26 := vStrong1.said resp26 rfl rfl (by decide)
end Go.Proofs.Ytohelfcinfpmaaa
