/- Chapter 19: a match with its tables exchanged, and in another order. -/
import Derived.Test.YtmncmboeddlcmaaDoorC19X
namespace Go.Proofs.YtmncmboeddlcmaaDoor
open Go Go.Sx Go.Proofs.C19

def elB (l : List (List Int)) : Bool := l.all fun r => r.all fun x => decide ((0 : Int) ≤ x) && decide (x ≤ 4294967295)

theorem take_map_succ (f : List Int → List Int) {l : List (List Int)} {k : Nat} (h : k < l.length) : (l.take (k + 1)).map f = (l.take k).map f ++ [f (l.getD k [])] := by
  rw [List.take_succ_eq_append_getElem h, List.map_append, getD_lt h]
  rfl
theorem rev_getD {l : List (List Int)} {k : Nat} (h : k < l.length) : l.reverse.getD k [] = l.getD (l.length - 1 - k) [] := by
  rw [getD_lt (by simpa using h), getD_lt (by omega), List.getElem_reverse]

theorem runP_getD (B : List (List Int)) {n k : Nat} (h : k < n) : ((runP B n).getD k []).getD 0 0 = sumF swB B (k + 1) := by
  simp [runP, List.getD_eq_getElem?_getD, List.getElem?_map, List.getElem?_range h]

theorem ok1_bounds {r : List Int} (h : ok1 r = true) : -7600 ≤ r.getD 0 0 ∧ r.getD 0 0 ≤ 7600 ∧ -7600 ≤ r.getD 1 0 ∧ r.getD 1 0 ≤ 7600 := of_decide_eq_true h

section
variable {u : U} {B : List (List Int)} (hB : madeB u.l = B) (hel : elB u.l = true) (he : errB B = 0)

include hB hel he
theorem rTeams2 : ∀ m k : Nat, k + m = B.length → Runs I19 (tmsTeams.map Tm.pre) ssTeams 2 [u, { i := sumF swB B k }, { i := k }] []
  | m, k, h => by
    have hn := (errB_zero he).1
    have hr : runB B = runP B B.length := runB_ok he
    have hrl := runP_length B B.length
    have bs := sumF_bound swB B swB_bound k (by omega)
    have ba := sumF_bound gain B gain_bound B.length (Nat.le_refl _)
    have bb := sumF_bound loss B loss_bound B.length (Nat.le_refl _)
    refine Runs.step rfl ?_ ?_
    · simp only [tmsTeams, List.map_cons, List.getD_cons_zero, List.getD_cons_succ, holds_cons_iff, E.den, BiO.den, UnO.den, TeO.den, decide_eq_true_eq, beq_iff_eq, I19, Int.toNat_natCast, List.take_length, hB, he, hr, hrl]
      refine ⟨trivial, ?_, ?_, trivial, hel, Holds.nil⟩
      · rw [winB_sum he]; exact sum_nonneg _ loss_nonneg _
      · rw [winA_sum he]; exact sum_nonneg _ gain_nonneg _
    · simp only [StOk, E.den, BiO.den, UnO.den, TeO.den, I19, List.map_cons, List.map_nil, List.getD_cons_zero, List.getD_cons_succ, decide_eq_true_eq, decide_eq_false_iff_not, Int.toNat_natCast, List.take_length, hB, he, hr, holds_cons_iff, holds_nil_iff, and_true, Int.toNat_zero, show (1 : Int).toNat = 1 from rfl]
      refine ⟨fun h1 => ⟨by omega, fun _ => ?_⟩, fun h1 => ⟨fun _ => trivial, fun h2 => ?_⟩⟩
      · have hk : k < B.length := by omega
        have ok := ok_mem he hk
        have e0 := runP_getD B hk
        have e1 := sumF_succ swB B k hk
        rw [e0]
        generalize B.getD k [] = r at ok e1 ⊢
        obtain ⟨f1, f2⟩ := swE_ok ok
        have bd := ok1_bounds ok
        have sb := swB_bound r
        rw [f1, f2, w64 (x := sumF swB B k + swB r) (by omega) (by omega), w64 (x := r.getD 0 0 - r.getD 1 0) (by omega) (by omega), ← e1, w64 (by omega) (by omega)]
        cases m with
        | zero => omega
        | succ m => exact ⟨fun h => absurd h (by decide), fun _ => ⟨fun h => by simp at h, fun _ => ⟨fun h => by simp [swB] at h, fun _ => rTeams2 m (k + 1) (by omega)⟩⟩⟩
      · obtain rfl : k = B.length := by omega
        rw [winA_ok he, winB_ok he, w64 (by omega) (by omega), ← sumF_all, ← sumF_all, ← sumF_all, sum_sub] at h2
        simp at h2

theorem rTeams1 : ∀ m k : Nat, k + m = B.length → Runs I19 (tmsTeams.map Tm.pre) ssTeams 1 [u, { l := (B.take k).map swap }, { l := (B.reverse.take k).map row2 }, { i := k }] []
  | m, k, h => by
    have hn := (errB_zero he).1
    have l1 : ((B.take k).map swap).length = k := by simp; omega
    have l2 : ((B.reverse.take k).map row2).length = k := by simp; omega
    refine Runs.step rfl ?_ ?_
    · simp only [tmsTeams, List.map_cons, List.getD_cons_zero, List.getD_cons_succ, holds_cons_iff, E.den, BiO.den, UnO.den, TeO.den, decide_eq_true_eq, beq_iff_eq]
      exact ⟨by omega, hel, Holds.nil⟩
    · simp only [StOk, E.den, BiO.den, UnO.den, TeO.den, I19, List.map_cons, List.map_nil, List.getD_cons_zero, List.getD_cons_succ, decide_eq_true_eq, decide_eq_false_iff_not, Int.toNat_natCast, List.take_length, hB, he, holds_cons_iff, holds_nil_iff, and_true, Int.toNat_zero, show (1 : Int).toNat = 1 from rfl, l1]
      refine ⟨fun h1 => ⟨by omega, fun _ => ⟨by omega, fun _ => ?_⟩⟩, fun h1 => ?_⟩
      · rw [w64 (x := (B.length : Int) + -1) (by omega) (by omega), w64 (x := (B.length : Int) + -1 - k) (by omega) (by omega), w64 (x := (k : Int) + 1) (by omega) (by omega)]
        refine ⟨⟨by omega, by omega⟩, fun _ => ?_⟩
        cases m with
        | zero => omega
        | succ m =>
          have ih := rTeams1 m (k + 1) (by omega)
          rw [take_map_succ _ (by omega), take_map_succ _ (by simp; omega), rev_getD (by omega)] at ih
          rw [show ((B.length : Int) + -1 - k).toNat = B.length - 1 - k from by omega]
          exact ih
      · obtain rfl : k = B.length := by omega
        have hrev : B.reverse.take B.length = B.reverse := List.take_of_length_le (by simp)
        have hS : (B.map swap).take B.length = B.map swap := List.take_of_length_le (by simp)
        rw [hrev, List.take_length, hS]
        have mem : ∀ r ∈ B, ok1 r = true := fun r hr => by
          obtain ⟨i, hi, rfl⟩ := List.mem_iff_getElem.1 hr
          have := ok_mem he hi
          rwa [getD_lt hi] at this
        have eS : errB (B.map swap) = 0 := all_ok (fun r hr => by
          obtain ⟨q, hq, rfl⟩ := List.mem_map.1 hr
          rw [ok1_swap]; exact mem q hq) (by simpa using hn)
        have eR : errB (B.reverse.map row2) = 0 := all_ok (fun r hr => by
          obtain ⟨q, hq, rfl⟩ := List.mem_map.1 hr
          exact mem q (by simpa using hq)) (by simpa using hn)
        have a1 : winB (B.map swap) = winA B := by
          rw [winB_sum eS, winA_sum he, List.map_map]
          congr 2
          funext r
          exact loss_swap r
        have a2 : winA (B.map swap) = winB B := by
          rw [winA_sum eS, winB_sum he, List.map_map]
          congr 2
          funext r
          exact gain_swap r
        have a3 : winA (B.reverse.map row2) = winA B := by
          rw [winA_sum eR, winA_sum he, List.map_map, ← sum_rev gain B]
          rfl
        have a4 : winB (B.reverse.map row2) = winB B := by
          rw [winB_sum eR, winB_sum he, List.map_map, ← sum_rev loss B]
          rfl
        have nA : 0 ≤ winA B := by rw [winA_sum he]; exact sum_nonneg _ gain_nonneg _
        have nB : 0 ≤ winB B := by rw [winB_sum he]; exact sum_nonneg _ loss_nonneg _
        have hr : (runB B).length = B.length := by rw [runB_ok he, runP_length]
        rw [eS, eR, a1, a2, a3, a4, hr]
        refine ⟨fun h => absurd h (by decide), fun _ => ⟨fun h => absurd h (by decide), fun _ => ⟨fun h => absurd h (by decide), fun _ => ⟨fun h => by simp at h, fun _ => ⟨fun h => by simp at h, fun _ => ⟨fun h => by simp at h, fun _ => ⟨fun h => by simp at h, fun _ => ⟨fun h => by omega, fun _ => ⟨fun h => by omega, fun _ => ⟨fun h => by simp at h, fun _ => ?_⟩⟩⟩⟩⟩⟩⟩⟩⟩⟩
        exact rTeams2 hB hel he B.length 0 (by omega)
end

theorem vTeams : cTeams.Valid (cx lawCs [8]) I19 := by
  refine Ctr.valid_goes (glIn _ _) lawAll (by decide) (by decide) (by kernel_rfl) rfl sTeams ?_
  intro ρ0 hpre
  have hel : elB (ρ0.getD 0 {}).l = true := hpre (el32 0) (by simp [cTeams])
  refine Runs.step rfl hpre ?_
  exact rTeams1 rfl hel (all_ok (made_ok _ hel) (by rw [madeB_length]; omega)) (madeB (ρ0.getD 0 {}).l).length 0 (by omega)

end Go.Proofs.YtmncmboeddlcmaaDoor
