/- Chapter 19: matches of made boards. -/
import Derived.Test.YtmncmboeddlcmaaDoorC19W
namespace Go.Proofs.YtmncmboeddlcmaaDoor
open Go Go.Sx Go.Proofs.C19

def row2 (r : List Int) : List Int := [r.getD 0 0, r.getD 1 0]
def swap (r : List Int) : List Int := [r.getD 1 0, r.getD 0 0]

theorem madeB_length (l : List (List Int)) : (madeB l).length = min l.length 128 := by simp [madeB, Nat.min_comm]
theorem sum_append (f : List Int → Int) (a b : List (List Int)) : ((a ++ b).map f).sum = (a.map f).sum + (b.map f).sum := by rw [List.map_append, List.sum_append]
theorem sum_rev (f : List Int → Int) : ∀ l : List (List Int), (l.reverse.map f).sum = (l.map f).sum
  | [] => rfl
  | r :: l => by
    rw [List.reverse_cons, sum_append, sum_rev f l]
    simp
    omega

theorem made_ok (l : List (List Int)) (hel : (l.all fun r => r.all fun x => decide ((0 : Int) ≤ x) && decide (x ≤ 4294967295)) = true) : ∀ r ∈ madeB l, ok1 r = true := by
  intro r hr
  unfold madeB at hr
  obtain ⟨q, hq, rfl⟩ := List.mem_map.1 hr
  have h0 : 0 ≤ q.getD 0 0 := by
    rw [List.getD_eq_getElem?_getD]
    cases h2 : q[0]? with
    | none => simp
    | some x =>
      have := List.all_eq_true.1 (List.all_eq_true.1 hel q (List.mem_of_mem_take hq)) x (List.mem_of_getElem? h2)
      simp at this ⊢
      exact this.1
  have h1 := rem_in h0 (show (0 : Int) < 1521 by omega)
  have h2 := rem_in (Int.tdiv_nonneg h0 (show (0 : Int) ≤ 1521 by omega)) (show (0 : Int) < 1521 by omega)
  refine decide_eq_true ?_
  simp only [madeR, List.getD_cons_zero, List.getD_cons_succ]
  omega

theorem all_ok {B : List (List Int)} (h : ∀ r ∈ B, ok1 r = true) (hl : B.length ≤ 128) : errB B = 0 := by
  unfold errB
  rw [if_neg (by omega), if_pos (List.all_eq_true.2 h)]
theorem ok_mem {B : List (List Int)} (h : errB B = 0) {k : Nat} (hk : k < B.length) : ok1 (B.getD k []) = true := (errB_zero h).2 k hk

theorem winA_sum {B : List (List Int)} (h : errB B = 0) : winA B = (B.map gain).sum := by rw [winA_ok h, sumF_all]
theorem winB_sum {B : List (List Int)} (h : errB B = 0) : winB B = (B.map loss).sum := by rw [winB_ok h, sumF_all]

theorem swB_swap (r : List Int) : swB (swap r) = 0 - swB r := by
  unfold swB swap
  rw [← impN_neg]
  congr 1
  simp
  omega
theorem gain_swap (r : List Int) : gain (swap r) = loss r := by unfold gain loss; rw [swB_swap]; split <;> split <;> omega
theorem loss_swap (r : List Int) : loss (swap r) = gain r := by unfold gain loss; rw [swB_swap]; split <;> split <;> omega
theorem ok1_swap (r : List Int) : ok1 (swap r) = ok1 r := by
  unfold ok1 swap
  congr 1
  simp only [List.getD_cons_zero, List.getD_cons_succ, eq_iff_iff]
  omega
theorem gain_sub (r : List Int) : gain r - loss r = swB r := by unfold gain loss; split <;> omega

theorem sum_nonneg (f : List Int → Int) (hf : ∀ r, 0 ≤ f r) : ∀ l : List (List Int), 0 ≤ (l.map f).sum
  | [] => by simp
  | r :: l => by have := sum_nonneg f hf l; have := hf r; simp; omega
theorem gain_nonneg (r : List Int) : 0 ≤ gain r := by unfold gain; split <;> omega
theorem loss_nonneg (r : List Int) : 0 ≤ loss r := by unfold loss; split <;> omega
theorem sum_sub : ∀ l : List (List Int), (l.map gain).sum - (l.map loss).sum = (l.map swB).sum
  | [] => rfl
  | r :: l => by have := sum_sub l; have := gain_sub r; simp at *; omega

/-! ### two matches -/
theorem min_if (a : Int) (n : Nat) : (if (n : Int) < a then (n : Int) else a) = if (n : Int) < a then (n : Int) else a := rfl

theorem vParts : cParts.Valid (cx lawCs [9]) I19 := by
  refine Ctr.valid_goes (glIn _ _) lawAll (by decide) (by decide) (by kernel_rfl) rfl sParts ?_
  intro ρ0 hpre
  generalize hu : ρ0.getD 0 {} = u
  generalize hv : ρ0.getD 1 {} = v
  have p0 : (u.l.all fun r => r.all fun x => decide ((0 : Int) ≤ x) && decide (x ≤ 4294967295)) = true := by rw [← hu]; exact hpre (el32 0) (by simp [cParts])
  have p1 : (v.l.all fun r => r.all fun x => decide ((0 : Int) ≤ x) && decide (x ≤ 4294967295)) = true := by rw [← hv]; exact hpre (el32 1) (by simp [cParts])
  refine Runs.step rfl hpre ?_
  simp only [StOk, E.den, BiO.den, UnO.den, I19, hu, hv, List.map_nil]
  have m0 : (if (64 : Int) < (u.l.length : Int) then (64 : Int) else u.l.length) = ((min 64 u.l.length : Nat) : Int) := by split <;> omega
  have m1 : (if (64 : Int) < (v.l.length : Int) then (64 : Int) else v.l.length) = ((min 64 v.l.length : Nat) : Int) := by split <;> omega
  simp only [m0, m1, Int.toNat_natCast]
  generalize hP : madeB (u.l.take (min 64 u.l.length)) = P
  generalize hQ : madeB (v.l.take (min 64 v.l.length)) = Q
  have tk : ∀ {l : List (List Int)} {n : Nat}, (l.all fun r => r.all fun x => decide ((0 : Int) ≤ x) && decide (x ≤ 4294967295)) = true → ((l.take n).all fun r => r.all fun x => decide ((0 : Int) ≤ x) && decide (x ≤ 4294967295)) = true := by
    intro l n h
    rw [List.all_eq_true] at h ⊢
    exact fun r hr => h r (List.mem_of_mem_take hr)
  have okP : ∀ r ∈ P, ok1 r = true := by rw [← hP]; exact made_ok _ (tk p0)
  have okQ : ∀ r ∈ Q, ok1 r = true := by rw [← hQ]; exact made_ok _ (tk p1)
  have lP : P.length ≤ 64 := by rw [← hP, madeB_length, List.length_take]; omega
  have lQ : Q.length ≤ 64 := by rw [← hQ, madeB_length, List.length_take]; omega
  have eP := all_ok okP (by omega)
  have eQ := all_ok okQ (by omega)
  have ePQ : errB (P ++ Q) = 0 := all_ok (fun r hr => (List.mem_append.1 hr).elim (okP r) (okQ r)) (by rw [List.length_append]; omega)
  have tPQ : (P ++ Q).take (((P.length : Int) + (Q.length : Int)).toNat) = P ++ Q := List.take_of_length_le (by rw [List.length_append]; omega)
  have b1 := sumF_bound gain P gain_bound P.length (Nat.le_refl _)
  have b2 := sumF_bound gain Q gain_bound Q.length (Nat.le_refl _)
  have b3 := sumF_bound loss P loss_bound P.length (Nat.le_refl _)
  have b4 := sumF_bound loss Q loss_bound Q.length (Nat.le_refl _)
  simp only [tPQ, List.take_length, eP, eQ, ePQ, holds_cons_iff, holds_nil_iff, E.den, BiO.den, UnO.den, hu, hv, m0, m1, I19, Int.toNat_natCast, hP, hQ, decide_eq_true_eq, and_true, List.length_append]
  refine ⟨⟨by omega, by omega, by omega, by omega⟩, fun _ => ⟨by omega, fun _ => ⟨by omega, fun _ => ⟨by omega, fun _ => ?_⟩⟩⟩⟩
  refine ⟨fun _ => ⟨fun _ => ⟨fun _ => ⟨fun _ => ⟨fun _ => rfl, fun h => ?_⟩, fun h => ?_⟩, fun h => absurd h (by decide)⟩, fun h => absurd h (by decide)⟩, fun h => absurd h (by decide)⟩
  · rw [winB_ok eP, winB_ok eQ, w64 (by omega) (by omega), winB_sum ePQ, sum_append, sumF_all, sumF_all] at h
    simp at h
  · rw [winA_ok eP, winA_ok eQ, w64 (by omega) (by omega), winA_sum ePQ, sum_append, sumF_all, sumF_all] at h
    simp at h

/-! ### the closed statement -/
def oddL : List Int := [-7601, -7600, -10, 0, 90, 7600, 7601, 9223372036854775807, -9223372036854775808]

theorem setAt_len (A : List (List Int)) (i j : Nat) (x : Int) : (setAt A i j x).length = A.length := by simp [setAt]

theorem rSmall6 (n : Nat) (hn : 126 ≤ n) (hn2 : n ≤ 130) (next : Runs I19 (tmsSmall.map Tm.pre) ssSmall 5 [{ i := (n : Int) + 1 }] []) : ∀ m k : Nat, k + m = n → ∀ A : List (List Int), A.length = n →
    Runs I19 (tmsSmall.map Tm.pre) ssSmall 6 [{ i := k }, { i := n }, { l := A }] []
  | m, k, h, A, hA => by
    refine Runs.step rfl ?_ ?_
    · simp only [tmsSmall, List.map_cons, List.getD_cons_zero, List.getD_cons_succ, holds_cons_iff, E.den, BiO.den, UnO.den, decide_eq_true_eq, beq_iff_eq]
      refine ⟨?_, ?_, ?_, ?_, ?_, Holds.nil⟩ <;> omega
    · simp only [StOk, E.den, BiO.den, UnO.den, List.map_cons, List.map_nil, List.getD_cons_zero, List.getD_cons_succ, decide_eq_true_eq, decide_eq_false_iff_not, holds_cons_iff, holds_nil_iff, and_true, setAt_len]
      refine ⟨fun h1 => ?_, fun _ => ⟨by omega, fun _ => next⟩⟩
      cases m with
      | zero => omega
      | succ m => exact rSmall6 n hn hn2 next m (k + 1) (by omega) _ (by rw [setAt_len, setAt_len]; exact hA)

theorem rSmall5 : ∀ m k : Nat, k + m = 131 → 126 ≤ k → Runs I19 (tmsSmall.map Tm.pre) ssSmall 5 [{ i := k }] []
  | m, k, h, hk => by
    refine Runs.step rfl ?_ ?_
    · simp only [tmsSmall, List.map_cons, List.getD_cons_zero, List.getD_cons_succ, holds_cons_iff, E.den, BiO.den, UnO.den, decide_eq_true_eq]
      exact ⟨by omega, Holds.nil⟩
    · simp only [StOk, E.den, BiO.den, UnO.den, List.map_cons, List.map_nil, List.getD_cons_zero, List.getD_cons_succ, decide_eq_true_eq, decide_eq_false_iff_not, Int.toNat_natCast]
      refine ⟨fun h1 => ?_, fun _ => trivial⟩
      cases m with
      | zero => omega
      | succ m => exact rSmall6 k hk (by omega) (rSmall5 m (k + 1) (by omega) (by omega)) k 0 (by omega) _ (List.length_replicate)

theorem rSmall4 (i : Nat) (hi : i < 9) (a : Int) (next : Runs I19 (tmsSmall.map Tm.pre) ssSmall 3 [{ i := (i : Int) + 1 }] []) : ∀ m k : Nat, k + m = 9 → Runs I19 (tmsSmall.map Tm.pre) ssSmall 4 [{ i := k }, { i := a }, { i := i }] []
  | m, k, h => by
    refine Runs.step rfl ?_ ?_
    · simp only [tmsSmall, List.map_cons, List.getD_cons_zero, List.getD_cons_succ, holds_cons_iff, E.den, BiO.den, UnO.den, decide_eq_true_eq]
      refine ⟨?_, ?_, ?_, ?_, Holds.nil⟩ <;> omega
    · simp only [StOk, E.den, BiO.den, UnO.den, List.map_cons, List.map_nil, List.getD_cons_zero, List.getD_cons_succ, decide_eq_true_eq, decide_eq_false_iff_not, holds_cons_iff, holds_nil_iff, and_true, List.length_cons, List.length_nil]
      refine ⟨fun h1 => ⟨by omega, fun _ => ?_⟩, fun _ => next⟩
      cases m with
      | zero => omega
      | succ m => exact rSmall4 i hi a next m (k + 1) (by omega)

theorem rSmall3 : ∀ m k : Nat, k + m = 9 → Runs I19 (tmsSmall.map Tm.pre) ssSmall 3 [{ i := k }] []
  | m, k, h => by
    refine Runs.step rfl ?_ ?_
    · simp only [tmsSmall, List.map_cons, List.getD_cons_zero, List.getD_cons_succ, holds_cons_iff, E.den, BiO.den, UnO.den, decide_eq_true_eq]
      refine ⟨?_, ?_, Holds.nil⟩ <;> omega
    · simp only [StOk, E.den, BiO.den, UnO.den, List.map_cons, List.map_nil, List.getD_cons_zero, List.getD_cons_succ, decide_eq_true_eq, decide_eq_false_iff_not]
      refine ⟨fun h1 => ?_, fun _ => rSmall5 5 126 rfl (Nat.le_refl _)⟩
      cases m with
      | zero => omega
      | succ m => exact rSmall4 k (by omega) _ (rSmall3 m (k + 1) (by omega)) 9 0 rfl

theorem rSmall2 : ∀ m : Nat, ∀ d : Int, d + m = 28 → -2 ≤ d → Runs I19 (tmsSmall.map Tm.pre) ssSmall 2 [{ i := d }] []
  | m, d, h, hd => by
    refine Runs.step rfl Holds.nil ?_
    simp only [StOk, E.den, BiO.den, UnO.den, List.map_cons, List.map_nil, List.getD_cons_zero, List.getD_cons_succ, decide_eq_true_eq, decide_eq_false_iff_not, holds_cons_iff, holds_nil_iff, and_true, beq_iff_eq, beq_eq_false_iff_ne, ne_eq]
    refine ⟨fun h1 => ?_, fun _ => rSmall3 9 0 rfl⟩
    cases m with
    | zero => omega
    | succ m =>
      have ih := rSmall2 m (d + 1) (by omega) (by omega)
      rw [w64 (by omega) (by omega)]
      exact ⟨fun _ => ih, fun h2 => ⟨fun _ => ih, fun _ => ⟨fun _ => ih, fun h3 => ⟨by omega, fun _ => ih⟩⟩⟩⟩

theorem rSmall1 : ∀ m : Nat, ∀ d : Int, d + m = 4201 → -4200 ≤ d → Runs I19 (tmsSmall.map Tm.pre) ssSmall 1 [{ i := d }] []
  | m, d, h, hd => by
    refine Runs.step rfl ?_ ?_
    · simp only [tmsSmall, List.map_cons, List.getD_cons_zero, List.getD_cons_succ, holds_cons_iff, E.den, BiO.den, UnO.den, decide_eq_true_eq]
      refine ⟨?_, ?_, Holds.nil⟩ <;> omega
    · simp only [StOk, E.den, BiO.den, UnO.den, List.map_cons, List.map_nil, List.getD_cons_zero, List.getD_cons_succ, decide_eq_true_eq, decide_eq_false_iff_not]
      refine ⟨fun h1 => ?_, fun _ => rSmall2 30 (-2) rfl (by omega)⟩
      cases m with
      | zero => omega
      | succ m => exact rSmall1 m (d + 1) (by omega) (by omega)

theorem vSmall : cSmall.Valid (cx lawCs [5]) I19 := by
  refine Ctr.valid_goes (glIn _ _) lawAll (by decide) (by decide) (by kernel_rfl) rfl sSmall ?_
  intro ρ0 hpre
  exact Runs.step rfl hpre (rSmall1 8401 (-4200) rfl (by omega))

end Go.Proofs.YtmncmboeddlcmaaDoor
