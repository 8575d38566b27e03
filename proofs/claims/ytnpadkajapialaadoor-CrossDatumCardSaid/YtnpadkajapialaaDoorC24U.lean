/- Chapter 24: CrossDatum. -/
import Derived.Test.YtnpadkajapialaaDoorC24T
namespace Go.Proofs.YtnpadkajapialaaDoor
open Go Go.Sx Go.Proofs.C24

theorem set_mid (P : List Int) (y x : Int) (Q : List Int) : setAt (setAt (ones (P ++ y :: x :: Q)) (P.length + 1) 0 y) P.length 0 x = ones (P ++ x :: y :: Q) := by
  have set1 : ∀ (L : List Int) (i : Nat) (z : Int), i < L.length → setAt (ones L) i 0 z = ones (L.set i z) := by
    intro L i z h
    unfold setAt ones
    rw [List.map_set]
    congr 1
    simp [List.getD_eq_getElem?_getD, h]
  rw [set1 _ _ _ (by simp), set1 _ _ _ (by simp)]
  congr 1
  rw [List.set_append_right _ _ (by omega), Nat.add_sub_cancel_left]
  show (P ++ (y :: y :: Q)).set P.length x = _
  rw [List.set_append_right _ _ (Nat.le_refl _), Nat.sub_self]
  rfl
theorem getD_mid (P : List Int) (y : Int) (Q : List Int) : (P ++ y :: Q).getD P.length 0 = y := by
  rw [List.getD_eq_getElem?_getD, List.getElem?_append_right (Nat.le_refl _), Nat.sub_self]; rfl
theorem getD_mid1 (P : List Int) (y x : Int) (Q : List Int) : (P ++ y :: x :: Q).getD (P.length + 1) 0 = x := by
  rw [List.getD_eq_getElem?_getD, List.getElem?_append_right (by omega), Nat.add_sub_cancel_left]; rfl

/-- the inner loop: x goes down to its place -/
theorem rIns {l : List (List Int)} {at' : Int} {S : List Int} (hS : scoresI (nums l) = S) (hel : (l.all fun r => r.all fun x => decide ((-32768 : Int) ≤ x) && decide (x ≤ 32767)) = true) (a0 : 0 ≤ at') (a1 : at' ≤ 255) (h0 : S.length ≠ 0) (h24 : S.length ≤ 24) {out : List U} {i : Nat} {R : List Int}
    (next : ∀ (A : List Int), A.Perm S → A.length = S.length → (A.take (i + 1)).Pairwise (· ≤ ·) → Runs I24 (tmsLDatum.map Tm.pre) ssLDatum 1 [{ l := l }, { i := at' }, { i := ((i + 1 : Nat) : Int) }, { l := ones A }] out) :
    ∀ (k : Nat) (P Q : List Int) (x : Int), P.length = k → (P ++ Q).length = i → (P ++ x :: (Q ++ R)).Perm S → (P ++ Q).Pairwise (· ≤ ·) → (∀ y ∈ Q, x ≤ y) →
      Runs I24 (tmsLDatum.map Tm.pre) ssLDatum 2 [{ l := l }, { i := at' }, { i := (k : Int) }, { l := ones (P ++ x :: (Q ++ R)) }, { i := (i : Int) }] out
  | k, P, Q, x, hk, hi, hp, hs, hq => by
    have hlen := hp.length_eq
    have hl2 : P.length + 1 + Q.length + R.length = S.length := by rw [← hlen]; simp; omega
    rw [List.length_append] at hi
    have wi : IntKind.wrap .i64 ((i : Int) + 1) = ((i + 1 : Nat) : Int) := by rw [w64 (by omega) (by omega)]; omega
    have done : (P = [] ∨ ∃ P' y, P = P' ++ [y] ∧ y ≤ x) → Runs I24 (tmsLDatum.map Tm.pre) ssLDatum 1 [{ l := l }, { i := at' }, { i := ((i + 1 : Nat) : Int) }, { l := ones (P ++ x :: (Q ++ R)) }] out := by
      intro hP
      refine next _ hp hlen ?_
      have : (P ++ x :: (Q ++ R)).take (i + 1) = P ++ x :: Q := by
        rw [show P ++ x :: (Q ++ R) = (P ++ x :: Q) ++ R from by simp]
        rw [List.take_left' (by simp; omega)]
      rw [this]
      exact ins_done hs hP hq
    refine Runs.step rfl ?_ ?_
    · simp only [tmsLDatum, List.map_cons, List.getD_cons_zero, List.getD_cons_succ, holds_cons_iff, E.den, BiO.den, UnO.den, TeO.den, I24, decide_eq_true_eq, Bool.not_eq_true', beq_eq_false_iff_ne, hS, ones_len]
      exact ⟨a0, by omega, hel, a1, Holds.nil⟩
    cases k with
    | zero =>
      have hP : P = [] := List.length_eq_zero_iff.1 hk
      refine br_f ?_ ?_
      · simp only [E.den, BiO.den, List.getD_cons_zero, List.getD_cons_succ, decide_eq_false_iff_not]; omega
      simp only [StOk, E.den, BiO.den, UnO.den, List.map_cons, List.map_nil, List.getD_cons_zero, List.getD_cons_succ, wi]
      exact done (Or.inl hP)
    | succ k =>
      obtain ⟨P', y, rfl⟩ : ∃ P' y, P = P' ++ [y] := by
        rcases List.eq_nil_or_concat P with h | ⟨P', y, h⟩
        · subst h; simp at hk
        · exact ⟨P', y, by rw [h, List.concat_eq_append]⟩
      have hk' : P'.length = k := by simpa using hk
      have wk : IntKind.wrap .i64 (((k + 1 : Nat) : Int) + -1) = (k : Int) := by rw [w64 (by omega) (by omega)]; omega
      have eA : P' ++ [y] ++ x :: (Q ++ R) = P' ++ y :: x :: (Q ++ R) := by simp
      have g1 : (P' ++ y :: x :: (Q ++ R)).getD (k + 1) 0 = x := by rw [← hk']; exact getD_mid1 _ _ _ _
      have g0 : (P' ++ y :: x :: (Q ++ R)).getD k 0 = y := by rw [← hk']; exact getD_mid _ _ _
      refine br_t ?_ ?_
      · simp only [E.den, BiO.den, List.getD_cons_zero, List.getD_cons_succ, decide_eq_true_eq]; omega
      rw [eA] at hp hlen done ⊢
      have hset := set_mid P' y x (Q ++ R)
      rw [hk'] at hset
      have hl3 : (P' ++ y :: x :: (Q ++ R)).length = S.length := hlen
      rw [List.length_append, List.length_cons, List.length_nil] at hl2
      simp only [StOk, E.den, BiO.den, UnO.den, TeO.den, List.map_cons, List.map_nil, List.getD_cons_zero, List.getD_cons_succ, wk, wi, Int.toNat_natCast, Int.toNat_zero, get_ones, g0, g1, hset, holds_cons_iff, holds_nil_iff, decide_eq_true_eq, decide_eq_false_iff_not, ones_len, hl3]
      refine ⟨?_, fun _ => ⟨fun hxy => ?_, fun hxy => ?_⟩⟩
      · (repeat' refine And.intro ?_ ?_) <;> first | omega | trivial
      · have hyq : ∀ z ∈ y :: Q, x ≤ z := by
          intro z hz
          rcases List.mem_cons.1 hz with rfl | hz
          · omega
          · exact hq z hz
        have := rIns hS hel a0 a1 h0 h24 (R := R) next k P' (y :: Q) x hk' (by simp at hi ⊢; omega) (by
          refine List.Perm.trans ?_ hp
          exact (List.Perm.swap y x _).append_left P') (by rw [← ins_eq]; exact hs) hyq
        exact this
      · exact done (Or.inr ⟨P', y, rfl, by omega⟩)
where
  ins_eq {P' Q : List Int} {y : Int} : P' ++ [y] ++ Q = P' ++ (y :: Q) := by simp

theorem sorted_low {l : List Int} (h : l.Pairwise (· ≤ ·)) : ∀ x ∈ l, l.getD 0 0 ≤ x := by
  match l, h with
  | [], _ => intro x hx; cases hx
  | y :: l, h =>
    intro x hx
    rcases List.mem_cons.1 hx with rfl | hx
    · exact Int.le_refl _
    · exact (List.pairwise_cons.1 h).1 x hx
theorem sorted_high : ∀ {l : List Int}, l.Pairwise (· ≤ ·) → ∀ x ∈ l, x ≤ l.getD (l.length - 1) 0
  | [], _ => fun x hx => by cases hx
  | [y], _ => fun x hx => by rw [List.mem_singleton.1 hx]; exact Int.le_refl _
  | y :: z :: l, h => fun x hx => by
    have ih := sorted_high (List.pairwise_cons.1 h).2
    have e : (y :: z :: l).getD ((y :: z :: l).length - 1) 0 = (z :: l).getD ((z :: l).length - 1) 0 := rfl
    rw [e]
    rcases List.mem_cons.1 hx with rfl | hx
    · have h1 := (List.pairwise_cons.1 h).1 z (List.mem_cons_self ..)
      have h2 := ih z (List.mem_cons_self ..)
      omega
    · exact ih x hx

/-- the end: the datum and the list that is left -/
theorem rLDatum3 {l : List (List Int)} {M : List Int} {d : Nat} (hel : (l.all fun r => r.all fun x => decide ((-32768 : Int) ≤ x) && decide (x ≤ 32767)) = true) (hM : M.Pairwise (· ≤ ·)) (h24 : M.length ≤ 24) (hin : ∀ x ∈ M, -7600 ≤ x ∧ x ≤ 7600) (hd : 2 * d < M.length) {L : List Int} (hL : L = (M.drop d).take (M.length - 2 * d)) : ∀ f j : Nat, j + f = L.length →
    Runs I24 (tmsLDatum.map Tm.pre) ssLDatum 3 [{ l := l }, { i := meanI L }, { i := (d : Int) }, { i := (L.length : Int) }, { i := (L.take j).sum }, { i := (j : Int) }, { l := ones M }] [{ b := true }]
  | f, j, hf => by
    have next := fun (h : j < L.length) => (match f, hf with | 0, hf => absurd hf (by omega) | f + 1, hf => rLDatum3 hel hM h24 hin hd hL f (j + 1) (by omega) : Runs I24 (tmsLDatum.map Tm.pre) ssLDatum 3 [{ l := l }, { i := meanI L }, { i := (d : Int) }, { i := (L.length : Int) }, { i := (L.take (j + 1)).sum }, { i := ((j + 1 : Nat) : Int) }, { l := ones M }] [{ b := true }])
    have hLl : L.length = M.length - 2 * d := by rw [hL, List.length_take, List.length_drop]; omega
    have hLin : ∀ x ∈ L, -7600 ≤ x ∧ x ≤ 7600 := fun x hx => hin x (by rw [hL] at hx; exact List.mem_of_mem_drop (List.mem_of_mem_take hx))
    have hLs : L.Pairwise (· ≤ ·) := by rw [hL]; exact (hM.sublist (List.drop_sublist _ _)).sublist (List.take_sublist _ _)
    have hget : ∀ i : Nat, i < L.length → M.getD (d + i) 0 = L.getD i 0 := by
      intro i hi
      rw [hL, List.getD_eq_getElem?_getD, List.getD_eq_getElem?_getD, List.getElem?_take, if_pos (by omega), List.getElem?_drop]
    refine Runs.step rfl ?_ ?_
    · simp only [tmsLDatum, List.map_cons, List.getD_cons_zero, List.getD_cons_succ, holds_cons_iff, E.den, BiO.den, UnO.den, TeO.den, I24, decide_eq_true_eq, ones_len]
      exact ⟨by omega, hel, Holds.nil⟩
    by_cases hj : j < L.length
    · have hm := hLin (L.getD j 0) (get_in hj)
      have hsum := sum_in (L.take j) (fun x hx => hLin x (List.mem_of_mem_take hx))
      rw [List.length_take] at hsum
      have wj : IntKind.wrap .i64 ((j : Int) + 1) = ((j + 1 : Nat) : Int) := by rw [w64 (by omega) (by omega)]; omega
      have ws : IntKind.wrap .i64 ((L.take j).sum + L.getD j 0) = (L.take j).sum + L.getD j 0 := w64 (by omega) (by omega)
      have hn := next hj
      rw [take_snocI hj, sum_snoc] at hn
      have edj : ((d : Int) + (j : Int)).toNat = d + j := by omega
      refine br_t ?_ ?_
      · simp only [E.den, BiO.den, List.getD_cons_zero, List.getD_cons_succ, decide_eq_true_eq]; omega
      simp only [StOk, E.den, BiO.den, UnO.den, TeO.den, List.map_cons, List.map_nil, List.getD_cons_zero, List.getD_cons_succ, edj, Int.toNat_zero, get_ones, hget j hj, ws, wj, holds_cons_iff, holds_nil_iff, decide_eq_true_eq, ones_len]
      exact ⟨⟨by omega, trivial⟩, fun _ => ⟨⟨by omega, by omega, trivial⟩, fun _ => hn⟩⟩
    · refine br_f ?_ ?_
      · simp only [E.den, BiO.den, List.getD_cons_zero, List.getD_cons_succ, decide_eq_false_iff_not]; omega
      rw [List.take_of_length_le (by omega)]
      have hsum := sum_in L hLin
      obtain ⟨n1, n2, n3, n4⟩ := meanI_near (l := L) (by omega)
      have hmi := meanI_in (l := L) (by omega) (sorted_low hLs) (sorted_high hLs)
      have hmr := meanI_in (l := L) (by omega) (a := -7600) (b := 7600) (fun x hx => (hLin x hx).1) (fun x hx => (hLin x hx).2)
      have g0 : M.getD d 0 = L.getD 0 0 := by have := hget 0 (by omega); rwa [Nat.add_zero] at this
      have gl : M.getD (d + (L.length - 1)) 0 = L.getD (L.length - 1) 0 := hget (L.length - 1) (by omega)
      have i0 := hLin (L.getD 0 0) (get_in (by omega))
      have il := hLin (L.getD (L.length - 1) 0) (get_in (by omega))
      have hprod : -(7700 * 24) ≤ meanI L * (L.length : Int) ∧ meanI L * (L.length : Int) ≤ 7700 * 24 := by omega
      have w1 : IntKind.wrap .i64 (meanI L * (L.length : Int)) = meanI L * (L.length : Int) := w64 (by omega) (by omega)
      have w2 : IntKind.wrap .i64 (meanI L * (L.length : Int) - L.sum) = meanI L * (L.length : Int) - L.sum := w64 (by omega) (by omega)
      have w3 : IntKind.wrap .i64 (-5 * (L.length : Int)) = -5 * (L.length : Int) := w64 (by omega) (by omega)
      have w4 : IntKind.wrap .i64 (5 * (L.length : Int)) = 5 * (L.length : Int) := w64 (by omega) (by omega)
      have w5 : IntKind.wrap .i64 (L.getD 0 0 + -9) = L.getD 0 0 + -9 := w64 (by omega) (by omega)
      have w6 : IntKind.wrap .i64 (L.getD (L.length - 1) 0 + 9) = L.getD (L.length - 1) 0 + 9 := w64 (by omega) (by omega)
      have w7 : IntKind.wrap .i64 ((L.length : Int) + -1) = (L.length : Int) + -1 := w64 (by omega) (by omega)
      have edl : ((d : Int) + ((L.length : Int) + -1)).toNat = d + (L.length - 1) := by omega
      simp only [StOk, E.den, BiO.den, UnO.den, TeO.den, List.map_cons, List.map_nil, List.getD_cons_zero, List.getD_cons_succ, Int.toNat_natCast, Int.toNat_zero, get_ones, edl, g0, gl, w1, w2, w3, w4, w5, w6, w7, holds_cons_iff, holds_nil_iff, decide_eq_true_eq, decide_eq_false_iff_not, beq_iff_eq, beq_eq_false_iff_ne, ones_len]
      have tail : (0 < (L.length : Int) ∧ True) ∧ ((0 < (L.length : Int) ∧ True) → (0 ≤ (d : Int) ∧ (d : Int) < M.length ∧ True) ∧ ((0 ≤ (d : Int) ∧ (d : Int) < M.length ∧ True) →
          (L.getD 0 0 + -9 ≤ meanI L → (0 ≤ (L.length : Int) + -1 ∧ (L.length : Int) + -1 < L.length ∧ True) ∧ ((0 ≤ (L.length : Int) + -1 ∧ (L.length : Int) + -1 < L.length ∧ True) → ((d : Int) + ((L.length : Int) + -1) < M.length ∧ True) ∧ (((d : Int) + ((L.length : Int) + -1) < M.length ∧ True) →
            (meanI L ≤ L.getD (L.length - 1) 0 + 9 → True) ∧ (¬ meanI L ≤ L.getD (L.length - 1) 0 + 9 → [({ b := false } : U)] = [{ b := true }])))) ∧ (¬ L.getD 0 0 + -9 ≤ meanI L → [({ b := false } : U)] = [{ b := true }]))) := by
        refine ⟨⟨by omega, trivial⟩, fun _ => ⟨⟨by omega, by omega, trivial⟩, fun _ => ⟨fun _ => ⟨⟨by omega, by omega, trivial⟩, fun _ => ⟨⟨by omega, trivial⟩, fun _ => ⟨fun _ => trivial, fun q => ?_⟩⟩⟩, fun q => ?_⟩⟩⟩
        · omega
        · omega
      refine ⟨fun q => by omega, fun _ => ⟨fun q => by omega, fun _ => ⟨fun q => ⟨fun q' => by omega, fun _ => ⟨fun r => ⟨fun r' => by omega, fun _ => tail⟩, fun _ => tail⟩⟩, fun q => ⟨fun r => ⟨fun r' => by omega, fun _ => tail⟩, fun _ => tail⟩⟩⟩⟩

theorem rLDatum1 {l : List (List Int)} {at' : Int} {S : List Int} (hS : scoresI (nums l) = S) (hel : (l.all fun r => r.all fun x => decide ((-32768 : Int) ≤ x) && decide (x ≤ 32767)) = true) (a0 : 0 ≤ at') (a1 : at' ≤ 255) (h0 : S.length ≠ 0) : ∀ (f i : Nat) (A : List Int), i + f = S.length → A.Perm S → A.length = S.length → (A.take i).Pairwise (· ≤ ·) →
    Runs I24 (tmsLDatum.map Tm.pre) ssLDatum 1 [{ l := l }, { i := at' }, { i := (i : Int) }, { l := ones A }] [{ b := true }]
  | f, i, A, hf, hp, hA, hs => by
    have hl24 : S.length ≤ 24 := by rw [← hS]; exact scoresI_len _
    have herr : errI S = 0 := by rw [← hS]; exact scoresI_err _
    have hin : ∀ x ∈ S, -7600 ≤ x ∧ x ≤ 7600 := by rw [← hS]; exact fun x hx => scoresI_in hx
    refine Runs.step rfl ?_ ?_
    · simp only [tmsLDatum, List.map_cons, List.getD_cons_zero, List.getD_cons_succ, holds_cons_iff, E.den, BiO.den, UnO.den, TeO.den, I24, decide_eq_true_eq, Bool.not_eq_true', beq_eq_false_iff_ne, hS, ones_len]
      exact ⟨a0, by omega, hel, a1, Holds.nil⟩
    cases f with
    | succ f =>
      refine br_t ?_ ?_
      · simp only [E.den, BiO.den, UnO.den, I24, List.getD_cons_zero, List.getD_cons_succ, decide_eq_true_eq, hS, ones_len]; omega
      have hspl : A = A.take i ++ A.getD i 0 :: A.drop (i + 1) := by
        have := List.take_append_drop i A
        rw [List.drop_eq_getElem_cons (show i < A.length by omega)] at this
        rw [List.getD_eq_getElem?_getD, List.getElem?_eq_getElem (show i < A.length by omega)]
        exact this.symm
      have hti : (A.take i).length = i := by rw [List.length_take]; omega
      have := rIns (R := A.drop (i + 1)) hS hel a0 a1 h0 hl24 (out := [{ b := true }]) (i := i) (fun A' hp' hl' hs' => rLDatum1 hS hel a0 a1 h0 f (i + 1) A' (by omega) hp' hl' hs') i (A.take i) [] (A.getD i 0) hti (by rw [List.append_nil]; exact hti) (by rw [List.nil_append, ← hspl]; exact hp) (by rw [List.append_nil]; exact hs) (fun y hy => by cases hy)
      rw [List.nil_append, ← hspl] at this
      exact this
    | zero =>
      have hi : i = A.length := by omega
      rw [hi, List.take_length] at hs
      refine br_f ?_ ?_
      · simp only [E.den, BiO.den, UnO.den, I24, List.getD_cons_zero, List.getD_cons_succ, decide_eq_false_iff_not, hS, ones_len]; omega
      have hAin : ∀ x ∈ A, -7600 ≤ x ∧ x ≤ 7600 := fun x hx => hin x (hp.subset hx)
      have hAe : errI A = 0 := errI_ok (by omega) hAin
      have hwl : IntKind.wrap .i64 ((A.length : Int) + 1) = (A.length : Int) + 1 := w64 (by omega) (by omega)
      have hdiv : ((A.length : Int) + 1).tdiv 2 = ((A.length : Int) + 1) / 2 := Int.tdiv_eq_ediv_of_nonneg (by omega)
      have hmod : 0 ≤ at'.tmod (((A.length : Int) + 1).tdiv 2) ∧ at'.tmod (((A.length : Int) + 1).tdiv 2) < ((A.length : Int) + 1).tdiv 2 := by
        rw [Int.tmod_eq_emod_of_nonneg a0]
        exact ⟨Int.emod_nonneg _ (by rw [hdiv]; omega), Int.emod_lt_of_pos _ (by rw [hdiv]; omega)⟩
      obtain ⟨d, hk⟩ := int_nat hmod.1
      rw [hk] at hmod
      have hd := datE_ok hAe (d := (d : Int)) hmod.1 hmod.2
      have hd2 : 2 * d < A.length := by rw [hdiv] at hmod; omega
      obtain ⟨L, hL⟩ : ∃ L, (A.drop d).take (A.length - 2 * d) = L := ⟨_, rfl⟩
      have hLl : L.length = A.length - 2 * d := by rw [← hL, List.length_take, List.length_drop]; omega
      have hLs : L.Pairwise (· ≤ ·) := by rw [← hL]; exact (hs.sublist (List.drop_sublist _ _)).sublist (List.take_sublist _ _)
      have hLin : ∀ x ∈ L, -7600 ≤ x ∧ x ≤ 7600 := fun x hx => hAin x (by rw [← hL] at hx; exact List.mem_of_mem_drop (List.mem_of_mem_take hx))
      have hLe : errI L = 0 := errI_ok (by omega) hLin
      have hleft : leftI A d = L := by rw [leftI_eq, sortI_of hs, Int.toNat_natCast, hL]
      have hleft0 : leftI L 0 = L := by rw [leftI_eq, sortI_of hLs]; simp
      have hd0 : datE L 0 = 0 := datE_ok hLe (Int.le_refl 0) (by rw [Int.tdiv_eq_ediv_of_nonneg (by omega)]; omega)
      have hv : datV A d = meanI L := by rw [datV, if_neg (fun q => q hd), hleft]
      have hv0 : datV L 0 = meanI L := by rw [datV, if_neg (fun q => q hd0), hleft0]
      have wnd : IntKind.wrap .i64 ((A.length : Int) - (d : Int)) = (A.length : Int) - d := w64 (by omega) (by omega)
      have htn : ((A.length : Int) - (d : Int) - (d : Int)).toNat = A.length - 2 * d := by omega
      have hones : List.take (A.length - 2 * d) (List.drop d (ones A)) = ones L := by unfold ones; rw [← List.map_drop, ← List.map_take, hL]
      have hten := meanI_tens L
      have hLi : (A.length : Int) - (d : Int) - (d : Int) = (L.length : Int) := by omega
      simp only [StOk, E.den, BiO.den, UnO.den, I24, List.map_cons, List.map_nil, List.getD_cons_zero, List.getD_cons_succ, nums_ones, ones_len, hwl, hk, wnd, htn, Int.toNat_natCast, hones, hd, hd0, hv, hv0, hten, holds_cons_iff, holds_nil_iff, decide_eq_true_eq, Bool.not_eq_true', Bool.not_eq_false', beq_iff_eq, beq_eq_false_iff_ne]
      refine ⟨⟨by rw [hdiv]; omega, trivial⟩, fun _ => ⟨⟨by omega, trivial⟩, fun _ => ⟨⟨by omega, by omega, by omega, trivial⟩, fun _ => ⟨⟨by omega, by omega, by omega, trivial⟩, fun _ => ⟨fun q => (q rfl).elim, fun _ => ⟨fun q => (q rfl).elim, fun _ => ⟨fun q => (q rfl).elim, fun _ => ⟨fun q => (q rfl).elim, fun _ => ?_⟩⟩⟩⟩⟩⟩⟩⟩
      rw [hLi]
      exact rLDatum3 hel hs (by omega) hAin hd2 hL.symm L.length 0 (by omega)

theorem vLDatum1 : cLDatum.Valid (cx [cScores, cDatum, cDatumP, cAw] [cLDatum.fn]) I24 := by
  refine Ctr.valid_run resp24 (glIn _ _) (allOf (.cons vScores (.cons vDatum (.cons (vDatum.win 1 1 0 (by decide) (by decide) (by decide)) (.cons vAw .nil))))) (by decide) (by decide) (by kernel_rfl) rfl sLDatum [.l, .i] [.b] (by decide) ?_
  intro ρ0 hρ hpre _
  obtain ⟨l, a, rfl⟩ := two_l8 hρ
  have hp := hpre
  simp only [cLDatum, el16, le', List.cons_append, List.nil_append, holds_cons_iff, E.den, BiO.den, TeO.den, List.getD_cons_zero, List.getD_cons_succ, decide_eq_true_eq] at hp
  obtain ⟨hel, a0, a1, _⟩ := hp
  refine ⟨[{ b := true }], Runs.step rfl hpre ?_, rfl⟩
  simp only [StOk, E.den, BiO.den, UnO.den, I24, List.map_cons, List.map_nil, List.getD_cons_zero, List.getD_cons_succ, ones_len, beq_iff_eq, beq_eq_false_iff_ne]
  refine ⟨fun _ => trivial, fun h => ?_⟩
  exact rLDatum1 rfl hel a0 a1 (by omega) (scoresI (nums l)).length 0 _ (by omega) (List.Perm.refl _) rfl (by rw [List.take_zero]; exact List.Pairwise.nil)
theorem vLDatum : ({ cLDatum with outs := [], res := .bool (.bl true) } : Ctr).Valid (cx [cScores, cDatum, cDatumP, cAw] [cLDatum.fn]) I24 := vLDatum1.said resp24 rfl rfl (by decide)
end Go.Proofs.YtnpadkajapialaaDoor
