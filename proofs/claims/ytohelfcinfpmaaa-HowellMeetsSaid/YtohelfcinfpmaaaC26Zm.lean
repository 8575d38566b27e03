/- Chapter 26: HowellMeets. -/
import Derived.Test.YtohelfcinfpmaaaC26Zs
import Derived.Test.YtohelfcinfpmaaaC26F
import Derived.Test.YtohelfcinfpmaaaC26Sm
namespace Go.Proofs.Ytohelfcinfpmaaa
open Go Go.Sx Go.Proofs.C26

theorem fairRows_take {T S C : Nat} : ∀ (l l2 : List (List Int)) (round table : Nat) (s : FS), fairRows T S C (l ++ l2) round table s = true → table < T → (table + l.length) % T = 0 → fairRows T S C l round table s = true
  | [], l2, round, table, s, _, ht, hm => by
    rw [List.length_nil, Nat.add_zero, Nat.mod_eq_of_lt ht] at hm
    subst hm
    rfl
  | r :: l, l2, round, table, s, h, ht, hm => by
    rw [List.cons_append] at h
    unfold fairRows at h ⊢
    split at h
    · cases h
    · rename_i s' hs
      rw [List.length_cons] at hm
      split at h
      · rename_i hT
        simp only [if_pos hT]
        refine fairRows_take l l2 _ _ _ h (by omega) ?_
        rw [show table + (l.length + 1) = T + l.length from by omega, Nat.add_mod_left] at hm
        rw [Nat.zero_add]; exact hm
      · rename_i hT
        simp only [if_neg hT]
        refine fairRows_take l l2 _ _ _ h (by omega) ?_
        rw [show table + 1 + l.length = table + (l.length + 1) from by omega]; exact hm

theorem rowsR_take (n : Int) (l : List (List Int)) (k : Nat) : ∀ d, (rowsR n l (k + d)).take (k * (l.length + 1)) = rowsR n l k
  | 0 => by rw [Nat.add_zero, ← rowsR_len n l k]; exact List.take_length
  | d + 1 => by
    rw [← Nat.add_assoc, rowsR_succ, List.take_append_of_le_length, rowsR_take n l k d]
    rw [rowsR_len]
    exact Nat.mul_le_mul_right _ (Nat.le_add_right _ _)
theorem rowsR_split (n : Int) (l : List (List Int)) (k d : Nat) : rowsR n l (k + d) = rowsR n l k ++ (rowsR n l (k + d)).drop (k * (l.length + 1)) := by
  conv => lhs; rw [← List.take_append_drop (k * (l.length + 1)) (rowsR n l (k + d)), rowsR_take]

def copiesN (t : Int) : Nat := if hasP t then 1 else t.toNat
def fairAll (t : Int) : Bool := fairRows t.toNat (2 * t + -1).toNat (copiesN t) (rowsR (2 * t + -1) (startL t) (2 * t + -1).toNat) 0 0 ⟨0, 0, 0, List.replicate (2 * t + -1).toNat [0]⟩
theorem all_add {p : Nat → Bool} {a b : Nat} (h1 : (List.range a).all p = true) (h2 : ((List.range b).all fun m => p (a + m)) = true) : (List.range (a + b)).all p = true := by
  rw [List.all_eq_true] at h1 h2 ⊢
  intro m hm
  rw [List.mem_range] at hm
  by_cases h : m < a
  · exact h1 m (List.mem_range.2 h)
  · have := h2 (m - a) (List.mem_range.2 (by omega))
    rwa [show a + (m - a) = m from by omega] at this
theorem fair_1 : ((List.range 10).all fun m => fairAll ((m : Int) + 2)) = true := by kernel_rfl
theorem fair_2 : ((List.range 5).all fun m => fairAll (((10 + m : Nat) : Int) + 2)) = true := by kernel_rfl
theorem fair_3 : ((List.range 3).all fun m => fairAll (((15 + m : Nat) : Int) + 2)) = true := by kernel_rfl
theorem fair_4 : ((List.range 3).all fun m => fairAll (((18 + m : Nat) : Int) + 2)) = true := by kernel_rfl
theorem fair_5 : ((List.range 2).all fun m => fairAll (((21 + m : Nat) : Int) + 2)) = true := by kernel_rfl
theorem fair_all : ((List.range 23).all fun m => fairAll ((m : Int) + 2)) = true :=
  all_add (a := 21) (b := 2) (all_add (a := 18) (b := 3) (all_add (a := 15) (b := 3) (all_add (a := 10) (b := 5) fair_1 fair_2) fair_3) fair_4) fair_5
def elsAll (t : Int) : Bool := (rowsR (2 * t + -1) (startL t) (2 * t + -1).toNat).all fun r => r.all fun x => decide ((0 : Int) ≤ x) && decide (x ≤ 100)
theorem els_all : ((List.range 23).all fun m => elsAll ((m : Int) + 2)) = true := by kernel_rfl

/-- all that is said of a Howell movement -/
structure MakeOk (t k : Int) : Prop where
  e : makeE t k = 0
  f0 : makeF 0 t k = t
  f1 : makeF 1 t k = k
  f2 : makeF 2 t k = 2 * t + -1
  f3 : makeF 3 t k = (copiesN t : Nat)
  f4 : makeF 4 t k = 1
  r : makeR t k = rowsR (2 * t + -1) (startL t) k.toNat
  els : ((makeR t k).all fun r => r.all fun x => decide ((0 : Int) ≤ x) && decide (x ≤ 100)) = true
  fair : fairB [t, k, 2 * t + -1, (copiesN t : Nat)] (makeR t k) = true
  len : ((makeR t k).length : Int) = k * t

theorem make_ok {t k : Int} (h2 : 2 ≤ t) (h24 : t ≤ 24) (k1 : 1 ≤ k) (kn : k ≤ 2 * t + -1) : MakeOk t k := by
  have ok := start_ok h2 h24
  have hE := from_E (k := k) ok.c k1 kn
  have hl := ok.l
  have hl' : (startL t).length + 1 = t.toNat := by omega
  have hR : makeR t k = rowsR (2 * t + -1) (startL t) k.toNat := by
    rw [make_R ok.e]
    unfold fromR
    rw [if_neg (fun e => e hE)]
  have hhalf : (2 * t + -1 + 1).tdiv 2 = t := by rw [show 2 * t + -1 + 1 = t * 2 from by omega]; exact Int.mul_tdiv_cancel _ (by decide)
  obtain ⟨d, hd⟩ : ∃ d : Nat, (2 * t + -1).toNat = k.toNat + d := ⟨(2 * t + -1).toNat - k.toNat, by omega⟩
  have hsplit := rowsR_split (2 * t + -1) (startL t) k.toNat d
  have hlenN : (makeR t k).length = t.toNat * k.toNat := by rw [hR, rowsR_len, hl', Nat.mul_comm]
  have hall := List.all_eq_true.1 els_all (t.toNat - 2) (List.mem_range.2 (by omega))
  have hfair := List.all_eq_true.1 fair_all (t.toNat - 2) (List.mem_range.2 (by omega))
  rw [show (((t.toNat - 2 : Nat) : Int) + 2) = t from by omega] at hall hfair
  unfold elsAll at hall
  unfold fairAll at hfair
  rw [hd, hsplit] at hall
  conv at hfair => lhs; arg 4; rw [hd, hsplit]
  have hC : 0 ≤ ((copiesN t : Nat) : Int) ∧ ((copiesN t : Nat) : Int) ≤ 24 := by unfold copiesN; split <;> omega
  refine ⟨(make_E ok.e).trans hE, ?_, ?_, ?_, ?_, ?_, hR, ?_, ?_, ?_⟩
  · rw [make_F ok.e]; unfold fromF; rw [if_neg (fun e => e hE)]; exact hhalf
  · rw [make_F ok.e]; unfold fromF; rw [if_neg (fun e => e hE)]; rfl
  · rw [make_F ok.e]; unfold fromF; rw [if_neg (fun e => e hE)]; rfl
  · rw [make_F ok.e]; unfold fromF; rw [if_neg (fun e => e hE)]
    show (if checkS (2 * t + -1) (startL t) = true then 1 else (2 * t + -1 + 1).tdiv 2) = _
    simp only [ok.s, hhalf, copiesN]
    split <;> omega
  · rw [make_F ok.e]; unfold fromF; rw [if_neg (fun e => e hE)]; rfl
  · rw [hR]
    rw [List.all_append, Bool.and_eq_true] at hall
    exact hall.1
  · unfold fairB
    simp only [List.getD_cons_zero, List.getD_cons_succ, Int.toNat_natCast, Bool.and_eq_true, decide_eq_true_eq]
    refine ⟨⟨by omega, by omega, by omega, by omega, by omega, by omega, hC.1, hC.2, hlenN⟩, ?_⟩
    rw [hR]
    refine fairRows_take _ _ _ _ _ hfair (by omega) ?_
    rw [rowsR_len, hl', Nat.zero_add, Nat.mul_mod_left]
  · rw [hlenN, Int.natCast_mul, Int.mul_comm]
    rw [Int.toNat_of_nonneg (by omega), Int.toNat_of_nonneg (by omega)]

theorem vMeets1 : cLMeets.Valid (cx [cPrimeT, cStart, cMake, cFair, cKSame, cKSameP, cKAw] [4]) I26 := by
  refine Ctr.valid_run resp26 (glIn _ _) (allOf (.cons (re vPrimeT) (.cons (re vStart) (.cons (re vMake) (.cons (re vFair) (.cons (re vKSame) (.cons (re (vKSame.win 0 5 5 (by decide) (by decide) (by decide))) (.cons (re vKAw) .nil)))))))) (by decide) (by decide) (by kernel_rfl) rfl sLMeets [.i, .i] [.b] (by decide) ?_
  intro ρ0 hρ hpre _
  obtain ⟨a, b, rfl⟩ := two_ii hρ
  have hp := hpre
  simp only [cLMeets, le', List.cons_append, List.nil_append, holds_cons_iff, E.den, BiO.den, List.getD_cons_zero, List.getD_cons_succ, decide_eq_true_eq] at hp
  obtain ⟨a0, a1, b0, b1, _⟩ := hp
  refine ⟨[{ b := true }], Runs.step rfl hpre ?_, rfl⟩
  have hm := tmod_small a0 (show (0 : Int) < 23 by omega)
  obtain ⟨t, hT⟩ : ∃ t, a.tmod 23 + 2 = t := ⟨_, rfl⟩
  have hk := tmod_small b0 (show (0 : Int) < 2 * t + -1 by omega)
  obtain ⟨k, hK⟩ : ∃ k, IntKind.wrap .i64 (b.tmod (2 * t + -1) + 1) = k := ⟨_, rfl⟩
  have hk' : b.tmod (2 * t + -1) + 1 = k := by rw [← hK, w64 (by omega) (by omega)]
  have mk := make_ok (t := t) (k := k) (by omega) (by omega) (by omega) (by omega)
  have mn := make_ok (t := t) (k := 2 * t + -1) (by omega) (by omega) (by omega) (by omega)
  have hll := makeR_len t (2 * t + -1)
  have w2 : (IntKind.wrap .i64 ((2 * t * (2 * t + -1)).tdiv 2)) = (2 * t + -1) * t := by
    rw [show 2 * t * (2 * t + -1) = (2 * t + -1) * t * 2 from by rw [Int.mul_comm, Int.mul_comm 2 t, Int.mul_assoc], Int.mul_tdiv_cancel _ (by decide)]
    have h1 : (2 * t + -1) * t ≤ 47 * 24 := Int.mul_le_mul (by omega) (by omega) (by omega) (by omega)
    have h2 : 0 ≤ (2 * t + -1) * t := Int.mul_nonneg (by omega) (by omega)
    exact w64 (by omega) (by omega)
  have hkt : k * t ≤ (2 * t + -1) * t := Int.mul_le_mul_of_nonneg_right (by omega) (by omega)
  have hkt0 : 0 ≤ k * t := Int.mul_nonneg (by omega) (by omega)
  have hcp : (copiesN t : Int) = if hasP t then 1 else t := by unfold copiesN; split <;> omega
  have htake : ((makeR t (2 * t + -1)).drop 0).take (k * t).toNat = makeR t k := by
    have e : (k * t).toNat = k.toNat * ((startL t).length + 1) := by
      have hl := (start_ok (t := t) (by omega) (by omega)).l
      have : (startL t).length + 1 = t.toNat := by omega
      rw [this]
      obtain ⟨k', rfl⟩ := Int.eq_ofNat_of_zero_le (show 0 ≤ k by omega)
      obtain ⟨t', rfl⟩ := Int.eq_ofNat_of_zero_le (show 0 ≤ t by omega)
      rw [← Int.natCast_mul]
      simp only [Int.toNat_natCast]
    obtain ⟨d, hd⟩ : ∃ d : Nat, (2 * t + -1).toNat = k.toNat + d := ⟨(2 * t + -1).toNat - k.toNat, by omega⟩
    rw [List.drop_zero, mn.r, mk.r, e, hd, rowsR_take]
  have hfk := mk.fair
  have hfn := mn.fair
  have hE1 := mk.els
  have hE2 := mn.els
  have hlk := mk.len
  have hln := mn.len
  refine ne_ed ?_ (br_f ?_ (br_f ?_ (br_f ?_ (br_f ?_ (br_f ?_ (br_f ?_ (br_f ?_ ?_)))))))
  all_goals simp only [StOk, E.den, BiO.den, UnO.den, TeO.den, I26, List.map_cons, List.map_nil, List.getD_cons_zero, List.getD_cons_succ, hT, hK, mk.e, mn.e, mk.f0, mk.f1, mk.f2, mk.f3, mk.f4, mn.f0, mn.f1, mn.f2, mn.f3, mn.f4, w2, Int.toNat_zero, htake, beq_self_eq_true, Bool.not_true, holds_cons_iff, holds_nil_iff, decide_eq_true_eq, Bool.not_eq_false', Bool.not_eq_true', beq_eq_false_iff_ne]
  · exact ⟨by omega, trivial⟩
  · decide
  · rw [hcp]
    cases hasP t with
    | true => rfl
    | false =>
      show (false == (t == 1)) = true
      rw [beq_eq_false_iff_ne.2 (show t ≠ 1 by omega)]
      rfl
  · have hc0 : 0 ≤ (copiesN t : Int) ∧ (copiesN t : Int) ≤ 24 := by rw [hcp]; split <;> omega
    have hlen : (makeR t k).length ≤ 5000 := makeR_len t k
    refine ⟨fun hh => ⟨fun h => ?_, fun _ => ⟨⟨by omega, by omega, by omega, by omega, hE1, hfk, trivial⟩, fun _ => ⟨⟨by omega, by omega, by omega, by omega, by omega, by omega, hc0.1, hE2, hfn, trivial⟩, fun _ => ⟨⟨by omega, trivial⟩, fun _ => ⟨fun _ => ⟨⟨by omega, by omega, trivial, trivial, trivial, eqR_refl _ _, trivial⟩, fun _ => trivial⟩, fun h => by cases h⟩⟩⟩⟩⟩,
      fun hh => ⟨⟨by omega, by omega, by omega, by omega, hc0.1, hc0.2, hE1, hfk, trivial⟩, fun _ => ⟨⟨by omega, by omega, by omega, by omega, by omega, by omega, hE2, hfn, trivial⟩, fun _ => ⟨⟨by omega, trivial⟩, fun _ => ⟨fun _ => ⟨⟨by omega, by omega, trivial, trivial, trivial, eqR_refl _ _, trivial⟩, fun _ => trivial⟩, fun h => by cases h⟩⟩⟩⟩⟩
    exfalso
    rw [hh] at hcp
    simp only [Bool.false_eq_true, if_false] at hcp
    exact h hcp

theorem vMeets : ({ cLMeets with outs := [], res := .bool (.bl true) } : Ctr).Valid (cx [cPrimeT, cStart, cMake, cFair, cKSame, cKSameP, cKAw] [4]) I26 := vMeets1.said resp26 rfl rfl (by decide)
end Go.Proofs.Ytohelfcinfpmaaa
