/- Chapter 25: fair movements: less rounds, a pair missing. -/
import Derived.Test.YtbknfmmoniammaaC25Y
namespace Go.Proofs.Ytbknfmmoniammaa
open Go Go.Sx Go.Proofs.C25

theorem FairM.prefix {T R S C : Int} {l l' : List (List Int)} (h : FairM T R S C (l ++ l')) {R' : Int} (hr : ∀ r ∈ l, r.getD 0 0 < R') : FairM T R' S C l where
  row := fun r hm => by
    have f := h.row r (List.mem_append_left _ hm)
    exact ⟨⟨f.r0.1, hr r hm⟩, f.r1, f.r2, f.r3, f.r4⟩
  sits := by have := h.sits; rw [List.flatMap_append] at this; exact (List.nodup_append.1 this).1
  plays := by have := h.plays; rw [List.flatMap_append] at this; exact (List.nodup_append.1 this).1
  meets := by have := h.meets; rw [List.flatMap_append] at this; exact (List.nodup_append.1 this).1
  stands := fun k => by have := h.stands k; rw [List.map_append, List.count_append] at this; omega

theorem rowsM_split (t k : Nat) (r : Nat) : ∀ d, ∃ l, rowsM t k (r + d) = rowsM t k r ++ l
  | 0 => ⟨[], by simp⟩
  | d + 1 => by
    obtain ⟨l, hl⟩ := rowsM_split t k r d
    exact ⟨l ++ (List.range t).map (rowM t k (r + d)), by rw [← Nat.add_assoc, rowsM_succ, hl, List.append_assoc]⟩
theorem fullR_split (T K N d : Nat) : ∃ l, fullR T K (N + d) = fullR T K N ++ l := by
  unfold fullR
  split
  · obtain ⟨l, hl⟩ := rowsM_split T 1 N d
    exact ⟨l.map (roverRow T), by rw [hl, List.map_append]⟩
  · exact rowsM_split T K N d
theorem roverRow_c {T : Nat} {x : List Int} {c : Nat} (hc : c ≠ 2) : (roverRow T x).getD c 0 = x.getD c 0 := by
  unfold roverRow
  split
  · rw [List.getD_eq_getElem?_getD, List.getElem?_set_ne (Ne.symm hc), List.getD_eq_getElem?_getD]
  · rfl
theorem fullR_mem {T K N : Nat} {x : List Int} (h : x ∈ fullR T K N) : ∃ r j : Nat, r < N ∧ j < T ∧ x.getD 0 0 = r ∧ x.getD 1 0 = j ∧ x.getD 4 0 = setM T (if K = 0 then 1 else K) r j ∧ x.getD 3 0 = (T : Int) + 1 + pairM T (if K = 0 then 1 else K) r j ∧ x.length = 5 ∧ (x.getD 2 0 = j + 1 ∨ K = 0 ∧ x.getD 2 0 = 2 * T + 1) := by
  unfold fullR at h
  split at h
  · rename_i hK
    obtain ⟨y, hy, rfl⟩ := List.mem_map.1 h
    obtain ⟨r, j, hr, hj, rfl⟩ := mem_rowsM hy
    refine ⟨r, j, hr, hj, by rw [roverRow_c (by decide)]; rfl, by rw [roverRow_c (by decide)]; rfl, by rw [roverRow_c (by decide), if_pos hK]; rfl, by rw [roverRow_c (by decide), if_pos hK]; rfl, ?_, ?_⟩
    · unfold roverRow; split
      · rw [List.length_set]; rfl
      · rfl
    · unfold roverRow; split
      · exact Or.inr ⟨hK, rfl⟩
      · exact Or.inl rfl
  · rename_i hK
    obtain ⟨r, j, hr, hj, rfl⟩ := mem_rowsM h
    exact ⟨r, j, hr, hj, rfl, rfl, by rw [if_neg hK]; rfl, by rw [if_neg hK]; rfl, rfl, Or.inl rfl⟩
theorem fullR_len (T K N : Nat) : (fullR T K N).length = N * T := by
  unfold fullR; split <;> simp [rowsM_len]

theorem fair_full {T K N : Nat} (h : fairChk T K = true) (hN : N ≤ mostN T K) : FairM T N T (if K = 3 then 2 else 1) (fullR T K N) := by
  have := fairChk_ok h
  obtain ⟨d, hd⟩ : ∃ d, mostN T K = N + d := ⟨mostN T K - N, by omega⟩
  obtain ⟨l, hl⟩ := fullR_split T K N d
  rw [hd, hl] at this
  refine FairM.prefix this fun r hr => ?_
  obtain ⟨a, _, ha, _, e, _⟩ := fullR_mem hr
  rw [e]; omega

/-! ### without a pair -/
theorem less_c0 (p : Int) (r : List Int) : (lessRow p r).getD 0 0 = r.getD 0 0 := rfl
theorem less_c1 (p : Int) (r : List Int) : (lessRow p r).getD 1 0 = r.getD 1 0 := rfl
theorem less_c2 (p : Int) (r : List Int) : (lessRow p r).getD 2 0 = if r.getD 2 0 = p then 0 else r.getD 2 0 := rfl
theorem less_c3 (p : Int) (r : List Int) : (lessRow p r).getD 3 0 = if r.getD 3 0 = p then 0 else r.getD 3 0 := rfl
theorem less_c4 (p : Int) (r : List Int) : (lessRow p r).getD 4 0 = r.getD 4 0 := rfl

theorem less_seats (p : Int) (r : List Int) : (([(lessRow p r).getD 2 0, (lessRow p r).getD 3 0].filter fun p => p != 0)).Sublist ([r.getD 2 0, r.getD 3 0].filter fun p => p != 0) := by
  rw [less_c2, less_c3]
  generalize r.getD 2 0 = a
  generalize r.getD 3 0 = b
  by_cases h1 : a = p <;> by_cases h2 : b = p <;> by_cases h3 : a = 0 <;> by_cases h4 : b = 0 <;> simp [h1, h2, h3, h4, List.filter_cons] <;> (try split) <;> (try split) <;> simp
theorem flatMap_sub {α β : Type} (f g : α → List β) (h : ∀ x, (f x).Sublist (g x)) : ∀ l : List α, (l.flatMap f).Sublist (l.flatMap g)
  | [] => List.Sublist.slnil
  | x :: l => by rw [List.flatMap_cons, List.flatMap_cons]; exact (h x).append (flatMap_sub f g h l)
theorem FairM.less {T R S C : Int} {l : List (List Int)} (h : FairM T R S C l) (p : Int) : FairM T R S C (l.map (lessRow p)) where
  row := fun r hm => by
    obtain ⟨x, hx, rfl⟩ := List.mem_map.1 hm
    have f := h.row x hx
    refine ⟨f.r0, f.r1, ?_, ?_, f.r4⟩
    · rw [less_c2]; have := f.r2; split <;> omega
    · rw [less_c3]; have := f.r3; split <;> omega
  sits := by
    rw [List.flatMap_map]
    refine List.Nodup.sublist (flatMap_sub _ _ (fun r => ?_) l) h.sits
    unfold sitKeys
    exact (less_seats p r).map _
  plays := by
    rw [List.flatMap_map]
    refine List.Nodup.sublist (flatMap_sub _ _ (fun r => ?_) l) h.plays
    unfold playKeys
    exact (less_seats p r).map _
  meets := by
    rw [List.flatMap_map]
    refine List.Nodup.sublist (flatMap_sub _ _ (fun r => ?_) l) h.meets
    unfold meetKeys
    rw [less_c2, less_c3]
    by_cases h1 : r.getD 2 0 = p
    · rw [if_pos h1, Int.zero_mul, if_pos rfl]; exact List.nil_sublist _
    · by_cases h2 : r.getD 3 0 = p
      · rw [if_pos h2, Int.mul_zero, if_pos rfl]; exact List.nil_sublist _
      · rw [if_neg h1, if_neg h2]; exact List.Sublist.refl _
  stands := fun k => by
    rw [List.map_map]
    exact h.stands k
end Go.Proofs.Ytbknfmmoniammaa
