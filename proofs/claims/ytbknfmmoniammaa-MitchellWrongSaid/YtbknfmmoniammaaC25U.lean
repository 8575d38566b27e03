/- Chapter 25: numbers in order, each once: the program's way. -/
import Derived.Test.YtbknfmmoniammaaC25T
import Derived.Test.YtbknfmmoniammaaC25Ts
import Derived.Test.YtbknfmmoniammaaC25K
namespace Go.Proofs.Ytbknfmmoniammaa
open Go Go.Sx Go.Proofs.C25

theorem vSort : cSort47.Valid (cx [] []) I25 := vSortOf rfl (fun _ _ => rfl)

/-! ### lists of rows of one cell -/
theorem get_ones (L : List Int) (i : Nat) : ((ones L).getD i []).getD 0 0 = L.getD i 0 := by
  unfold ones
  rw [List.getD_eq_getElem?_getD (l := L.map _), List.getElem?_map, List.getD_eq_getElem?_getD (l := L)]
  cases L[i]? <;> rfl
theorem set_ones {L : List Int} {i : Nat} {x : Int} (h : i < L.length) : setAt (ones L) i 0 x = ones (L.set i x) := by
  unfold setAt ones
  rw [List.map_set, List.getD_eq_getElem?_getD, List.getElem?_map, List.getElem?_eq_getElem h]
  rfl
theorem ones_len (L : List Int) : (ones L).length = L.length := by simp [ones]
theorem ones_app (a b : List Int) : ones (a ++ b) = ones a ++ ones b := by simp [ones]
theorem ones_rep (n : Nat) : List.replicate n [(0 : Int)] = ones (List.replicate n 0) := by simp [ones]
theorem ones_take (L : List Int) (n : Nat) : (ones L).take n = ones (L.take n) := by simp [ones]
theorem ones_drop (L : List Int) (n : Nat) : (ones L).drop n = ones (L.drop n) := by simp [ones]
theorem getD_mid {K : List Int} {x : Int} {R : List Int} {d : Int} : (K ++ x :: R).getD K.length d = x := by
  rw [List.getD_eq_getElem?_getD, List.getElem?_append_right (Nat.le_refl _), Nat.sub_self]; rfl
theorem sortPre_ones {K Z : List Int} : sortPre (ones (K ++ Z)) K.length = ones ((K.mergeSort fun x y => decide (x ≤ y)) ++ Z) := by
  unfold sortPre
  rw [ones_take, ones_drop, List.take_left, List.drop_left, ones_app]
  have : (ones K).map (fun r => r.getD 0 0) = K := nums_ones K
  rw [this]
  rfl

theorem uniq_two (x y : Int) (l : List Int) : uniq (x :: y :: l) = if x = y then uniq (y :: l) else x :: uniq (y :: l) := by rw [uniq]
theorem uniq_snoc : ∀ (P : List Int) (y x : Int), uniq (P ++ [y, x]) = if y = x then uniq (P ++ [y]) else uniq (P ++ [y]) ++ [x]
  | [], y, x => by
    show uniq [y, x] = if y = x then [y] else [y] ++ [x]
    rw [uniq_two]
    split
    · rename_i h; subst h; rfl
    · rfl
  | [a], y, x => by
    have ih := uniq_snoc [] y x
    simp only [List.nil_append] at ih
    show uniq (a :: y :: [x]) = if y = x then uniq (a :: y :: []) else uniq (a :: y :: []) ++ [x]
    rw [uniq_two, ih, uniq_two a y]
    by_cases h1 : a = y <;> by_cases h2 : y = x <;> simp [h1, h2]
  | a :: b :: P, y, x => by
    have ih := uniq_snoc (b :: P) y x
    simp only [List.cons_append] at ih ⊢
    rw [uniq_two, ih, uniq_two a b]
    by_cases h1 : a = b <;> by_cases h2 : y = x <;> simp [h1, h2]
theorem take_two {S : List Int} {q : Nat} (h1 : 1 ≤ q) (hq : q < S.length) : S.take (q + 1) = S.take (q - 1) ++ [S.getD (q - 1) 0, S.getD q 0] ∧ S.take q = S.take (q - 1) ++ [S.getD (q - 1) 0] := by
  have e1 : S.take q = S.take (q - 1) ++ [S.getD (q - 1) 0] := by
    have := List.take_add_one (l := S) (i := q - 1)
    rw [show q - 1 + 1 = q from by omega, List.getElem?_eq_getElem (by omega)] at this
    rw [this, List.getD_eq_getElem?_getD, List.getElem?_eq_getElem (by omega)]
    rfl
  have e2 := List.take_add_one (l := S) (i := q)
  rw [List.getElem?_eq_getElem hq] at e2
  refine ⟨?_, e1⟩
  rw [e2, e1, List.append_assoc, List.getD_eq_getElem?_getD (i := q), List.getElem?_eq_getElem hq]
  rfl
theorem uniq_step {S : List Int} {q : Nat} (h1 : 1 ≤ q) (hq : q < S.length) : uniq (S.take (q + 1)) = if S.getD (q - 1) 0 = S.getD q 0 then uniq (S.take q) else uniq (S.take q) ++ [S.getD q 0] := by
  obtain ⟨e1, e2⟩ := take_two h1 hq
  rw [e1, e2, uniq_snoc]

/-! ### slices.Compact -/
def srtOut (S : List Int) (z : Nat) : List U := [{ l := ones (uniq S ++ List.replicate (S.length - (uniq S).length + z) 0) }, { i := ((uniq S).length : Int) }]
theorem uniq_len : ∀ S : List Int, (uniq S).length ≤ S.length
  | [] => Nat.le_refl _
  | [_] => Nat.le_refl _
  | x :: y :: l => by
    have := uniq_len (y :: l)
    unfold uniq
    split
    · rw [List.length_cons]; omega
    · rw [List.length_cons, List.length_cons]; omega

theorem rSorted4 {S : List Int} {z : Nat} (hS : S.length + z ≤ 100000) {off : Nat} {n2 : Int} (hn2 : 0 ≤ n2) : ∀ (f q k : Nat) (U' : List Int), q + f = S.length → off + 1 ≤ q → k < q → off ≤ k → U'.length = k → U' = uniq (S.take q) →
    Runs I25 (tmsSorted.map Tm.pre) ssSorted 4 [{ l := ones (U' ++ S.drop k ++ List.replicate z 0) }, { i := (S.length : Int) }, { i := n2 }, { i := (k : Int) }, { i := ((q - off : Nat) : Int) }, { i := (off : Int) }, { i := ((S.length - off : Nat) : Int) }] (srtOut S z)
  | f, q, k, U', hf, hoff, hk, hko, hU, hUq => by
    have hlen : (ones (U' ++ S.drop k ++ List.replicate z 0)).length = S.length + z := by rw [ones_len, List.length_append, List.length_append, List.length_drop, List.length_replicate]; omega
    refine Runs.step rfl ?_ ?_
    · simp only [tmsSorted, List.map_cons, List.getD_cons_zero, List.getD_cons_succ, holds_cons_iff, E.den, BiO.den, UnO.den, decide_eq_true_eq, hlen]
      (repeat' refine And.intro ?_ ?_) <;> first | exact Holds.nil | omega
    · have hw : IntKind.wrap .i64 (((q - off : Nat) : Int) + -1) = ((q - off - 1 : Nat) : Int) := by rw [w64 (by omega) (by omega)]; omega
      have hq1 : ((off : Int) + ((q - off : Nat) : Int)).toNat = q := by omega
      have hq2 : ((off : Int) + ((q - off - 1 : Nat) : Int)).toNat = q - 1 := by omega
      simp only [StOk, E.den, BiO.den, UnO.den, TeO.den, List.map_cons, List.map_nil, List.getD_cons_zero, List.getD_cons_succ, decide_eq_true_eq, decide_eq_false_iff_not, holds_cons_iff, holds_nil_iff, Bool.not_eq_true', Bool.not_eq_false', beq_iff_eq, beq_eq_false_iff_ne, hlen, hw, hq1, hq2, Int.toNat_zero, get_ones, Int.toNat_natCast]
      have hread (p : Nat) (h1 : k ≤ p) (h2 : p < S.length) : (U' ++ S.drop k ++ List.replicate z 0).getD p 0 = S.getD p 0 := by
        rw [List.getD_eq_getElem?_getD, List.getElem?_append_left (by rw [List.length_append, List.length_drop]; omega), List.getElem?_append_right (by omega), hU, List.getElem?_drop, show k + (p - k) = p from by omega, ← List.getD_eq_getElem?_getD]
      refine ⟨fun hlt => ⟨⟨by omega, by omega, by omega, by omega, by omega, by omega, by omega, trivial⟩, fun _ => ?_⟩, fun hge => ?_⟩
      · rw [hread q (by omega) (by omega), hread (q - 1) (by omega) (by omega)]
        cases f with
        | zero => omega
        | succ f =>
          have hst := uniq_step (S := S) (q := q) (by omega) (by omega)
          have e1 : IntKind.wrap .i64 (((q - off : Nat) : Int) + 1) = ((q + 1 - off : Nat) : Int) := by rw [w64 (by omega) (by omega)]; omega
          have e2 : IntKind.wrap .i64 ((k : Int) + 1) = ((k + 1 : Nat) : Int) := by rw [w64 (by omega) (by omega)]; omega
          rw [e1, e2]
          refine ⟨fun hne => ⟨⟨by omega, by omega, trivial⟩, fun _ => ⟨⟨by omega, trivial⟩, fun _ => ?_⟩⟩, fun heq => ?_⟩
          · rw [if_neg (fun e => hne e.symm)] at hst
            have ih := rSorted4 hS (off := off) hn2 f (q + 1) (k + 1) (U' ++ [S.getD q 0]) (by omega) (by omega) (by omega) (by omega) (by rw [List.length_append, hU]; rfl) (by rw [hst, hUq])
            rw [set_ones (by rw [List.length_append, List.length_append, List.length_drop, List.length_replicate]; omega)]
            have : (U' ++ S.drop k ++ List.replicate z 0).set k (S.getD q 0) = U' ++ [S.getD q 0] ++ S.drop (k + 1) ++ List.replicate z 0 := by
              rw [List.append_assoc, List.set_append_right _ _ (by omega), hU, Nat.sub_self, List.drop_eq_getElem_cons (show k < S.length from by omega), List.cons_append, List.set_cons_zero, List.append_assoc, List.append_assoc, List.singleton_append]
            rw [this]
            exact ih
          · rw [if_pos heq.symm] at hst
            exact rSorted4 hS (off := off) hn2 f (q + 1) k U' (by omega) (by omega) (by omega) (by omega) hU (by rw [hst, hUq])
      · have hq : q = S.length := by omega
        refine ⟨⟨by omega, by omega, trivial⟩, fun _ => ⟨⟨by omega, trivial⟩, fun _ => ?_⟩⟩
        rw [hq, List.take_length] at hUq
        have e3 : ((S.length : Int) - (k : Int)).toNat = S.length - k := by omega
        have e4 : ((k : Int) + ((S.length : Int) - (k : Int))).toNat = S.length := by omega
        rw [e3, e4, ones_rep, ones_take, ones_drop, ← ones_app, ← ones_app]
        have e5 : (U' ++ S.drop k ++ List.replicate z 0).take k = U' := by
          rw [List.append_assoc, List.take_append_of_le_length (by omega), List.take_of_length_le (by omega)]
        have e6 : (U' ++ S.drop k ++ List.replicate z 0).drop S.length = List.replicate z 0 := by
          rw [List.drop_append_of_le_length (by rw [List.length_append, List.length_drop]; omega), List.drop_of_length_le (by rw [List.length_append, List.length_drop]; omega), List.nil_append]
        rw [e5, e6]
        unfold srtOut
        rw [← hUq, hU, List.append_assoc, List.replicate_append_replicate]

theorem rSorted3 {S : List Int} {z : Nat} (hS : S.length + z ≤ 100000) {n2 : Int} (hn2 : 0 ≤ n2) : ∀ (f k : Nat), k + f = S.length → 1 ≤ k → uniq (S.take k) = S.take k →
    Runs I25 (tmsSorted.map Tm.pre) ssSorted 3 [{ l := ones (S ++ List.replicate z 0) }, { i := (S.length : Int) }, { i := n2 }, { i := (k : Int) }] (srtOut S z)
  | f, k, hf, h1, hk => by
    have hlen : (ones (S ++ List.replicate z 0)).length = S.length + z := by rw [ones_len, List.length_append, List.length_replicate]
    refine Runs.step rfl ?_ ?_
    · simp only [tmsSorted, List.map_cons, List.getD_cons_zero, List.getD_cons_succ, holds_cons_iff, E.den, BiO.den, decide_eq_true_eq]
      (repeat' refine And.intro ?_ ?_) <;> first | exact Holds.nil | omega
    · have hw : IntKind.wrap .i64 ((k : Int) + -1) = ((k - 1 : Nat) : Int) := by rw [w64 (by omega) (by omega)]; omega
      simp only [StOk, E.den, BiO.den, UnO.den, TeO.den, List.map_cons, List.map_nil, List.getD_cons_zero, List.getD_cons_succ, decide_eq_true_eq, decide_eq_false_iff_not, holds_cons_iff, holds_nil_iff, beq_iff_eq, beq_eq_false_iff_ne, hlen, hw, Int.toNat_zero, get_ones, Int.toNat_natCast]
      have hread (p : Nat) (h2 : p < S.length) : (S ++ List.replicate z 0).getD p 0 = S.getD p 0 := by
        rw [List.getD_eq_getElem?_getD, List.getElem?_append_left h2, ← List.getD_eq_getElem?_getD]
      refine ⟨fun hlt => ⟨⟨by omega, by omega, by omega, by omega, by omega, by omega, by omega, trivial⟩, fun _ => ?_⟩, fun hge => ?_⟩
      · rw [hread k (by omega), hread (k - 1) (by omega)]
        cases f with
        | zero => omega
        | succ f =>
          have hst := uniq_step (S := S) (q := k) (by omega) (by omega)
          refine ⟨fun heq => ?_, fun hne => ?_⟩
          · rw [if_pos heq.symm] at hst
            have := rSorted4 hS (off := k) hn2 f (k + 1) k (S.take k) (by omega) (by omega) (by omega) (by omega) (by rw [List.length_take]; omega) (by rw [hst, hk])
            rw [List.take_append_drop, show k + 1 - k = 1 from by omega, show ((S.length - k : Nat) : Int) = (S.length : Int) - (k : Int) from by omega] at this
            exact this
          · rw [if_neg (fun e => hne e.symm), hk] at hst
            have e2 : IntKind.wrap .i64 ((k : Int) + 1) = ((k + 1 : Nat) : Int) := by rw [w64 (by omega) (by omega)]; omega
            rw [e2]
            exact rSorted3 hS hn2 f (k + 1) (by omega) (by omega) (by rw [hst, (take_two h1 (by omega)).1, (take_two h1 (by omega)).2]; simp)
      · rw [List.take_of_length_le (by omega)] at hk
        unfold srtOut
        rw [hk, Nat.sub_self, Nat.zero_add]

/-! ### DeleteFunc, and the whole of sorted -/
theorem merge_len (K : List Int) : (K.mergeSort fun x y => decide (x ≤ y)).length = K.length := List.length_mergeSort _
def sortedOut (L : List Int) : List U := [{ l := srtAll (ones L) }, { i := srtLen (ones L) }]
theorem srtOut_eq {L K : List Int} {z : Nat} (hK : K = L.filter fun x => decide (1 ≤ x)) (hz : K.length + z = L.length) : srtOut (K.mergeSort fun x y => decide (x ≤ y)) z = sortedOut L := by
  have e : uniq (K.mergeSort fun x y => decide (x ≤ y)) = sortU L := by unfold sortU; rw [hK]
  have hl := uniq_len (K.mergeSort fun x y => decide (x ≤ y))
  rw [merge_len, e] at hl
  unfold srtOut sortedOut srtAll srtLen
  rw [e, merge_len, nums_ones, ones_app, ones_rep, ones_len, show K.length - (sortU L).length + z = L.length - (sortU L).length from by omega]
theorem small_uniq {K : List Int} (h : K.length < 2) : uniq K = K := by
  match K, h with
  | [], _ => rfl
  | [_], _ => rfl

theorem uniq_take1 (S : List Int) : uniq (S.take 1) = S.take 1 := small_uniq (by rw [List.length_take]; omega)

/-- from the sort on -/
theorem goSorted3 {L K : List Int} {z : Nat} (hK : K = L.filter fun x => decide (1 ≤ x)) (hz : K.length + z = L.length) (hL : L.length ≤ 100000) (h2 : 2 ≤ K.length) :
    Runs I25 (tmsSorted.map Tm.pre) ssSorted 3 [{ l := ones ((K.mergeSort fun x y => decide (x ≤ y)) ++ List.replicate z 0) }, { i := (K.length : Int) }, { i := (L.length : Int) }, { i := 1 }] (sortedOut L) := by
  rw [← srtOut_eq hK hz]
  have := rSorted3 (S := K.mergeSort fun x y => decide (x ≤ y)) (z := z) (by rw [merge_len]; omega) (n2 := (L.length : Int)) (by omega) (K.length - 1) 1 (by rw [merge_len]; omega) (Nat.le_refl _) (uniq_take1 _)
  rw [merge_len] at this
  exact this
theorem sortedOut_few {L K : List Int} {z : Nat} (hK : K = L.filter fun x => decide (1 ≤ x)) (hz : K.length + z = L.length) (h2 : K.length < 2) :
    [({ l := ones ((K.mergeSort fun x y => decide (x ≤ y)) ++ List.replicate z 0) } : U), { i := (K.length : Int) }] = sortedOut L := by
  rw [← srtOut_eq hK hz]
  unfold srtOut
  rw [small_uniq (by rw [merge_len]; exact h2), merge_len, Nat.sub_self, Nat.zero_add]

theorem rSorted2 {L : List Int} (hL : L.length ≤ 100000) : ∀ (R K G : List Int), G ≠ [] → K.length + G.length + R.length = L.length → K ++ (R.filter fun x => decide (1 ≤ x)) = (L.filter fun x => decide (1 ≤ x)) →
    Runs I25 (tmsSorted.map Tm.pre) ssSorted 2 [{ l := ones (K ++ G ++ R) }, { i := (K.length : Int) }, { i := ((K.length + G.length : Nat) : Int) }] (sortedOut L)
  | R, K, G, hG, hl, hK => by
    have hlen : (ones (K ++ G ++ R)).length = L.length := by rw [ones_len, List.length_append, List.length_append]; omega
    have hG1 : 1 ≤ G.length := by
      cases G with
      | nil => exact (hG rfl).elim
      | cons _ _ => rw [List.length_cons]; omega
    refine Runs.step rfl ?_ ?_
    · simp only [tmsSorted, List.map_cons, List.getD_cons_zero, List.getD_cons_succ, holds_cons_iff, E.den, BiO.den, UnO.den, decide_eq_true_eq, hlen]
      (repeat' refine And.intro ?_ ?_) <;> first | exact Holds.nil | omega
    · have e1 : ((L.length : Int) - (K.length : Int)).toNat = L.length - K.length := by omega
      have e2 : ((K.length : Int) + ((L.length : Int) - (K.length : Int))).toNat = L.length := by omega
      simp only [StOk, E.den, BiO.den, UnO.den, TeO.den, List.map_cons, List.map_nil, List.getD_cons_zero, List.getD_cons_succ, decide_eq_true_eq, decide_eq_false_iff_not, holds_cons_iff, holds_nil_iff, hlen, Int.toNat_zero, get_ones, Int.toNat_natCast, e1, e2]
      refine ⟨fun hlt => ?_, fun hge => ?_⟩
      · cases R with
        | nil => rw [List.length_nil] at hl; omega
        | cons x R =>
          have hx : (K ++ G ++ x :: R).getD (K.length + G.length) 0 = x := by rw [← List.length_append]; exact getD_mid
          rw [hx]
          refine ⟨fun h1 => ⟨⟨by omega, trivial⟩, fun _ => ?_⟩, fun h1 => ?_⟩
          · cases G with
            | nil => exact (hG rfl).elim
            | cons g G =>
              rw [List.filter_cons_of_pos (by simpa using h1)] at hK
              have ih := rSorted2 hL R (K ++ [x]) (G ++ [x]) (by simp) (by simp at hl ⊢; omega) (by rw [List.append_assoc]; exact hK)
              rw [set_ones (by simp)]
              have : (K ++ g :: G ++ x :: R).set K.length x = K ++ [x] ++ (G ++ [x]) ++ R := by
                rw [List.append_assoc, List.set_append_right _ _ (Nat.le_refl _), Nat.sub_self, List.cons_append, List.set_cons_zero]
                simp
              rw [this]
              rw [show (((K ++ [x]).length : Nat) : Int) = (K.length : Int) + 1 from by simp, show (((K ++ [x]).length + (G ++ [x]).length : Nat) : Int) = ((K.length + (g :: G).length : Nat) : Int) + 1 from by simp; omega] at ih
              exact ih
          · rw [List.filter_cons_of_neg (by simpa using h1)] at hK
            have ih := rSorted2 hL R K (G ++ [x]) (by simp) (by simp at hl ⊢; omega) hK
            rw [show K ++ (G ++ [x]) ++ R = K ++ G ++ x :: R from by simp, show ((K.length + (G ++ [x]).length : Nat) : Int) = ((K.length + G.length : Nat) : Int) + 1 from by simp; omega] at ih
            exact ih
      · cases R with
        | cons x R => rw [List.length_cons] at hl; omega
        | nil =>
          rw [List.filter_nil, List.append_nil] at hK
          rw [List.length_nil, Nat.add_zero] at hl
          have e3 : (ones (K ++ G ++ [])).take K.length ++ List.replicate (L.length - K.length) [0] ++ (ones (K ++ G ++ [])).drop L.length = ones (K ++ List.replicate G.length 0) := by
            rw [ones_take, ones_drop, ones_rep, ← ones_app, ← ones_app, List.append_nil, List.take_left, List.drop_of_length_le (by rw [List.length_append]; omega), List.append_nil, show L.length - K.length = G.length from by omega]
          rw [e3]
          have e4 (n : Nat) : (I25.f2 12 { l := ones (K ++ List.replicate n 0) } { i := (K.length : Int) }) = { l := ones ((K.mergeSort fun x y => decide (x ≤ y)) ++ List.replicate n 0) } := by
            show ({ l := sortPre _ (K.length : Int).toNat } : U) = _
            rw [Int.toNat_natCast, sortPre_ones]
          rw [e4, ones_len, List.length_append, List.length_replicate]
          refine ⟨⟨by omega, trivial⟩, fun _ => ⟨⟨by omega, by omega, trivial⟩, fun _ => ⟨fun h => ?_, fun h => ?_⟩⟩⟩
          · exact sortedOut_few hK (by omega) (by omega)
          · exact goSorted3 hK (by omega) hL (by omega)

theorem rSorted1 {L : List Int} (hL : L.length ≤ 100000) : ∀ (R K : List Int), K ++ R = L → (K.filter fun x => decide (1 ≤ x)) = K →
    Runs I25 (tmsSorted.map Tm.pre) ssSorted 1 [{ l := ones L }, { i := (K.length : Int) }] (sortedOut L)
  | R, K, hl, hK => by
    have hlen : (ones L).length = L.length := ones_len L
    have hl2 : K.length + R.length = L.length := by rw [← hl, List.length_append]
    refine Runs.step rfl ?_ ?_
    · simp only [tmsSorted, List.map_cons, List.getD_cons_zero, List.getD_cons_succ, holds_cons_iff, E.den, BiO.den, UnO.den, decide_eq_true_eq, hlen]
      (repeat' refine And.intro ?_ ?_) <;> first | exact Holds.nil | omega
    · simp only [StOk, E.den, BiO.den, UnO.den, TeO.den, List.map_cons, List.map_nil, List.getD_cons_zero, List.getD_cons_succ, decide_eq_true_eq, decide_eq_false_iff_not, hlen, Int.toNat_zero, get_ones, Int.toNat_natCast]
      refine ⟨fun hlt => ?_, fun hge => ?_⟩
      · cases R with
        | nil => rw [List.length_nil] at hl2; omega
        | cons x R =>
          have hx : L.getD K.length 0 = x := by rw [← hl]; exact getD_mid
          rw [hx]
          refine ⟨fun h1 => ?_, fun h1 => ?_⟩
          · have := rSorted2 hL R K [x] (by simp) (by simp at hl2 ⊢; omega) (by
              rw [← hl, List.filter_append, hK, List.filter_cons_of_neg (by simpa using h1)])
            rw [show K ++ [x] ++ R = L from by rw [← hl]; simp] at this
            exact this
          · have := rSorted1 hL R (K ++ [x]) (by rw [← hl]; simp) (by rw [List.filter_append, hK, List.filter_cons_of_pos (by simp; omega)]; rfl)
            rw [show (((K ++ [x]).length : Nat) : Int) = (K.length : Int) + 1 from by simp] at this
            exact this
      · cases R with
        | cons x R => rw [List.length_cons] at hl2; omega
        | nil =>
          rw [List.append_nil] at hl
          subst hl
          have e4 : (I25.f2 12 { l := ones K } { i := (K.length : Int) }) = { l := ones ((K.mergeSort fun x y => decide (x ≤ y)) ++ List.replicate 0 0) } := by
            show ({ l := sortPre _ (K.length : Int).toNat } : U) = _
            have := sortPre_ones (K := K) (Z := [])
            rw [List.append_nil] at this
            rw [Int.toNat_natCast, this]
            rfl
          rw [e4]
          refine ⟨fun h => ?_, fun h => ?_⟩
          · exact sortedOut_few hK.symm (by omega) (by omega)
          · exact goSorted3 hK.symm (by omega) hL (by omega)

theorem one_l {ρ0 : List U} (h : ρ0 = normU [.l] ρ0) : ∃ a : List (List Int), ρ0 = [{ l := a }] := ⟨_, h⟩
theorem vSorted : cSorted.Valid (cx [] []) I25 := by
  refine re (Ctr.valid_run resp25 (glIn _ _) (allOf (.cons vSort .nil)) (by decide) (by decide) (by kernel_rfl) rfl sSorted [.l] [.l, .i] (by decide) ?_)
  intro ρ0 hρ hpre hw
  obtain ⟨A, rfl⟩ := one_l hρ
  have hp := hpre
  simp only [cSorted, long, holds_cons_iff, E.den, BiO.den, UnO.den, List.getD_cons_zero, decide_eq_true_eq] at hp
  have h1 : ∀ r ∈ A, r.length = 1 := fun r hr => hw _ (List.mem_singleton.2 rfl) r hr
  rw [← ones_nums h1] at hp ⊢
  refine ⟨sortedOut (nums A), Runs.step rfl (by rw [ones_nums h1]; exact hpre) ?_, rfl⟩
  have := rSorted1 (L := nums A) (by rw [ones_len] at hp; omega) (nums A) [] rfl rfl
  exact this
end Go.Proofs.Ytbknfmmoniammaa
