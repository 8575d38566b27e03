/- Chapter 24: the examples of the chapter; CrossWrong, CrossTurned. -/
import Derived.Test.YtnpadkajapialaaDoorC24Q
import Derived.Test.YtnpadkajapialaaDoorC24Sa
import Derived.Test.YtnpadkajapialaaDoorC24Sl
namespace Go.Proofs.YtnpadkajapialaaDoor
open Go Go.Sx Go.Proofs.C24

/-! ### the same, for the kernel to reckon with -/
def insK (x : Int) : List Int → List Int
  | [] => [x]
  | y :: l => if x ≤ y then x :: y :: l else y :: insK x l
def sortK (l : List Int) : List Int := l.foldr insK []
theorem insK_perm (x : Int) : ∀ l : List Int, (insK x l).Perm (x :: l)
  | [] => List.Perm.refl _
  | y :: l => by
    unfold insK
    split
    · exact List.Perm.refl _
    · exact ((insK_perm x l).cons y).trans (List.Perm.swap x y l)
theorem insK_sorted (x : Int) : ∀ l : List Int, l.Pairwise (· ≤ ·) → (insK x l).Pairwise (· ≤ ·)
  | [], _ => List.pairwise_singleton _ _
  | y :: l, h => by
    rw [List.pairwise_cons] at h
    unfold insK
    split
    · rename_i hxy
      refine List.pairwise_cons.2 ⟨fun z hz => ?_, List.pairwise_cons.2 h⟩
      rcases List.mem_cons.1 hz with rfl | hz
      · exact hxy
      · have := h.1 z hz; omega
    · refine List.pairwise_cons.2 ⟨fun z hz => ?_, insK_sorted x l h.2⟩
      rcases List.mem_cons.1 ((insK_perm x l).subset hz) with rfl | hz
      · omega
      · exact h.1 z hz
theorem sortK_ok : ∀ l : List Int, (sortK l).Perm l ∧ (sortK l).Pairwise (· ≤ ·)
  | [] => ⟨List.Perm.refl _, List.Pairwise.nil⟩
  | x :: l => by
    obtain ⟨h1, h2⟩ := sortK_ok l
    exact ⟨(insK_perm x _).trans (h1.cons x), insK_sorted x _ h2⟩
theorem sortK_eq (l : List Int) : sortI l = sortK l := sorted_unique ((sortI_perm l).trans (sortK_ok l).1.symm) (sortI_sorted l) (sortK_ok l).2
def leftK (l : List Int) (d : Int) : List Int := ((sortK l).drop d.toNat).take (l.length - 2 * d.toNat)
def datVK (l : List Int) (d : Int) : Int := if datE l d ≠ 0 then 0 else meanI (leftK l d)
def butK (l : List Int) (d : Int) : List Int := if datE l d ≠ 0 then [] else l.map fun s => impN (s - datVK l d)
theorem datVK_eq : datV = datVK := by
  funext l d
  unfold datV datVK leftK
  rw [leftI_eq, sortK_eq]
theorem butK_eq : butI = butK := by
  funext l d
  unfold butI butK
  rw [datVK_eq]
def K24 : Itp where
  f1 := fun f u => match f with
    | 0 => { i := impN u.i }
    | 1 => { i := errI (nums u.l) }
    | 2 => { l := crossI (nums u.l) }
    | 3 => { l := plainI (nums u.l) }
    | 4 => { l := ones (scoresI (nums u.l)) }
    | _ => {}
  f2 := fun f u v => match f with
    | 0 => { i := frN u.i v.i }
    | 1 => { i := frD u.i v.i }
    | 2 => { i := gF u.i v.i }
    | 3 => { i := datVK (nums u.l) v.i }
    | 4 => { i := datE (nums u.l) v.i }
    | 5 => { l := ones (butK (nums u.l) v.i) }
    | 12 => { l := sortPre u.l v.i.toNat }
    | 13 => { b := eqR 1 u.l v.l }
    | 14 => { b := eqR 2 u.l v.l }
    | _ => {}
  f3 := fun _ _ _ _ => {}
  f4 := fun _ _ _ _ _ => {}
theorem K24_eq : I24 = K24 := by
  unfold I24 K24
  rw [datVK_eq, butK_eq]
  rfl
theorem vAw : cAw.Valid (cx [] []) I24 := by
  refine re (Ctr.valid_run (C := cx [cCross, cDatum, cButler, cPlain, cEqI, cEqF] [cAw.fn]) resp24 (glIn _ _) (allOf (.cons vCross (.cons vDatum (.cons vButler (.cons vPlain (.cons vEqI (.cons vEqF .nil))))))) (by decide) (by decide) (by kernel_rfl) rfl sAw [] [.b] (by decide) ?_)
  intro ρ0 hρ hpre _
  obtain rfl : ρ0 = [] := hρ
  refine ⟨[{ b := true }], ?_, rfl⟩
  rw [K24_eq]
  exact runs_of (k := 8) (by kernel_rfl)

/-! ### CrossWrong -/
theorem four_w {ρ0 : List U} (h : ρ0 = normU [.l, .i, .i, .b] ρ0) : ∃ (l : List (List Int)) (a n : Int) (b : Bool), ρ0 = [{ l := l }, { i := a }, { i := n }, { b := b }] := ⟨_, _, _, _, h⟩
theorem far_d {l : List Int} (h : errI l = 0) {d : Int} (hd : d < 0 ∨ ((l.length : Int) + 1).tdiv 2 ≤ d) : datV l d = 0 ∧ ones (butI l d) = [] ∧ datE l d = 2 := by
  have := datE_far h hd
  obtain ⟨a, b⟩ := datV_bad this (by decide)
  exact ⟨a, by rw [b]; rfl, this⟩
theorem bad_l {l : List Int} {e : Int} (h : errI l = e) (he : e ≠ 0) (d : Int) : crossI l = [] ∧ plainI l = [] ∧ ones (butI l d) = [] ∧ datV l d = 0 ∧ datE l d = e := by
  have hd := datE_bad h he d
  obtain ⟨a, b⟩ := datV_bad hd he
  exact ⟨cross_bad h he, plain_bad h he, by rw [b]; rfl, a, hd⟩

theorem rLWrong2 {l bad mny : List (List Int)} {n : Int} (h1 : (bad.length : Int) = (if (23 : Int) < ((scoresI (nums l)).length : Int) then 23 else ((scoresI (nums l)).length : Int)) + 1) (h2 : (mny.length : Int) = (if (23 : Int) < ((scoresI (nums l)).length : Int) then 23 else ((scoresI (nums l)).length : Int)) + 25)
    (hb : errI (nums bad) = 240) (hm : errI (nums mny) = 5) : ∀ f i : Nat, i + f = 2 → Runs I24 (tmsLWrong.map Tm.pre) ssLWrong 2 [{ l := l }, { i := n }, { l := bad }, { l := mny }, { i := (i : Int) }] [{ b := true }]
  | f, i, hf => by
    refine Runs.step rfl ?_ ?_
    · simp only [tmsLWrong, List.map_cons, List.getD_cons_zero, List.getD_cons_succ, holds_cons_iff, E.den, BiO.den, UnO.den, I24, decide_eq_true_eq, beq_iff_eq, ones_len]
      exact ⟨h1, h2, by omega, by omega, Holds.nil⟩
    by_cases hi : i < 2
    · obtain ⟨b1, b2, b3, b4, b5⟩ := bad_l hb (by decide) n
      obtain ⟨m1, m2, m3, m4, m5⟩ := bad_l hm (by decide) n
      have next : Runs I24 (tmsLWrong.map Tm.pre) ssLWrong 2 [{ l := l }, { i := n }, { l := bad }, { l := mny }, { i := (i : Int) + 1 }] [{ b := true }] := by
        cases f with
        | zero => omega
        | succ f =>
          have := rLWrong2 (n := n) h1 h2 hb hm f (i + 1) (by omega)
          rw [Int.natCast_add, Int.natCast_one] at this
          exact this
      refine br_t ?_ ?_
      · simp only [E.den, BiO.den, List.getD_cons_zero, List.getD_cons_succ, decide_eq_true_eq]; omega
      have w0 : IntKind.wrap .i64 (IntKind.wrap .i64 (0 + 0) + 0) = 0 := by decide
      simp only [StOk, E.den, BiO.den, UnO.den, I24, List.map_cons, List.map_nil, List.getD_cons_zero, List.getD_cons_succ, b1, b2, b3, b4, b5, hb, m1, m2, m3, m4, m5, hm, List.length_nil, Int.natCast_zero, w0, Bool.not_eq_true', Bool.not_eq_false', beq_iff_eq, beq_eq_false_iff_ne]
      refine ⟨fun _ => ⟨fun q => (q rfl).elim, fun _ => ⟨fun q => (q rfl).elim, fun _ => ⟨fun q => (q rfl).elim, fun _ => ⟨fun q => (q rfl).elim, fun _ => next⟩⟩⟩⟩, fun x0 => ⟨fun _ => ⟨fun q => (q rfl).elim, fun _ => ⟨fun q => (q rfl).elim, fun _ => ⟨fun q => (q rfl).elim, fun _ => ⟨fun q => (q rfl).elim, fun _ => next⟩⟩⟩⟩, fun x1 => by omega⟩⟩
    · refine br_f ?_ rfl
      simp only [E.den, BiO.den, List.getD_cons_zero, List.getD_cons_succ, decide_eq_false_iff_not]; omega

theorem nums_set (A : List (List Int)) (i : Nat) (x : Int) (h : ∀ r ∈ A, r.length = 1) : nums (setAt A i 0 x) = (nums A).set i x := by
  unfold setAt nums
  rw [List.map_set]
  by_cases hi : i < A.length
  · have := h (A.getD i []) (by rw [List.getD_eq_getElem?_getD, List.getElem?_eq_getElem hi]; exact List.getElem_mem _)
    match hr : A.getD i [], this with
    | [y], _ => rfl
  · rw [List.set_eq_of_length_le (by simpa using by omega), List.set_eq_of_length_le (by simpa using by omega)]
theorem setAt_len (A : List (List Int)) (i j : Nat) (x : Int) : (setAt A i j x).length = A.length := by simp [setAt]
theorem setAt_one {A : List (List Int)} {i : Nat} {x : Int} (h : ∀ r ∈ A, r.length = 1) : ∀ r ∈ setAt A i 0 x, r.length = 1 := by
  intro r hr
  unfold setAt at hr
  rcases List.mem_or_eq_of_mem_set hr with h' | rfl
  · exact h r h'
  · rw [List.length_set]
    by_cases hi : i < A.length
    · exact h _ (by rw [List.getD_eq_getElem?_getD, List.getElem?_eq_getElem hi]; exact List.getElem_mem _)
    · exfalso
      rw [List.set_eq_of_length_le (by omega)] at hr
      have := h _ hr
      rw [List.getD_eq_getElem?_getD, List.getElem?_eq_none (by omega)] at this
      simp at this
theorem mem_set_self {L : List Int} {a : Nat} {x : Int} (h : a < L.length) : x ∈ L.set a x := by
  rw [List.mem_iff_getElem?]
  exact ⟨a, by rw [List.getElem?_set_self h]⟩

theorem rLWrong1 {l : List (List Int)} {at' n : Int} {low : Bool} (hel : (l.all fun r => r.all fun x => decide ((-32768 : Int) ≤ x) && decide (x ≤ 32767)) = true) (a0 : 0 ≤ at') (a1 : at' ≤ 255) (n0 : -9223372036854775808 ≤ n) (n1 : n ≤ 9223372036854775807) : ∀ f i : Nat, i + f = 2 →
    Runs I24 (tmsLWrong.map Tm.pre) ssLWrong 1 [{ l := l }, { i := at' }, { i := n }, { b := low }, { i := (i : Int) }] [{ b := true }]
  | f, i, hf => by
    obtain ⟨S, hS⟩ : ∃ S, scoresI (nums l) = S := ⟨_, rfl⟩
    have hl24 := scoresI_len (nums l)
    have herr := scoresI_err (nums l)
    have hin : ∀ x ∈ scoresI (nums l), -7600 ≤ x ∧ x ≤ 7600 := fun x hx => scoresI_in hx
    rw [hS] at hl24 herr hin
    refine Runs.step rfl ?_ ?_
    · simp only [tmsLWrong, List.map_cons, List.getD_cons_zero, List.getD_cons_succ, holds_cons_iff, E.den, BiO.den, TeO.den, I24, decide_eq_true_eq]
      exact ⟨a0, by omega, by omega, hel, a1, n0, n1, Holds.nil⟩
    have hdiv : ((S.length : Int) + 1).tdiv 2 = ((S.length : Int) + 1) / 2 := Int.tdiv_eq_ediv_of_nonneg (by omega)
    by_cases hi : i < 2
    · have next : Runs I24 (tmsLWrong.map Tm.pre) ssLWrong 1 [{ l := l }, { i := at' }, { i := n }, { b := low }, { i := (i : Int) + 1 }] [{ b := true }] := by
        cases f with
        | zero => omega
        | succ f =>
          have := rLWrong1 (low := low) hel a0 a1 n0 n1 f (i + 1) (by omega)
          rw [Int.natCast_add, Int.natCast_one] at this
          exact this
      refine br_t ?_ ?_
      · simp only [E.den, BiO.den, List.getD_cons_zero, List.getD_cons_succ, decide_eq_true_eq]; omega
      have hwl : IntKind.wrap .i64 ((S.length : Int) + 1) = (S.length : Int) + 1 := w64 (by omega) (by omega)
      obtain ⟨d, hd, hfar⟩ : ∃ d : Int, ((([[if (-1 : Int) < n then -1 else n], [if ((S.length : Int) + 1).tdiv 2 > n then ((S.length : Int) + 1).tdiv 2 else n]] : List (List Int)).getD i []).getD 0 0 = d) ∧ (d < 0 ∨ ((S.length : Int) + 1).tdiv 2 ≤ d) := by
        have : i = 0 ∨ i = 1 := by omega
        rcases this with rfl | rfl
        · exact ⟨_, rfl, Or.inl (by show (if (-1 : Int) < n then -1 else n) < 0; split <;> omega)⟩
        · exact ⟨_, rfl, Or.inr (by show ((S.length : Int) + 1).tdiv 2 ≤ (if ((S.length : Int) + 1).tdiv 2 > n then ((S.length : Int) + 1).tdiv 2 else n); split <;> omega)⟩
      obtain ⟨e1, e2, e3⟩ := far_d herr hfar
      simp only [StOk, E.den, BiO.den, UnO.den, TeO.den, I24, List.map_cons, List.map_nil, List.getD_cons_zero, List.getD_cons_succ, hS, ones_len, nums_ones, hwl, Int.toNat_natCast, Int.toNat_zero, hd, e1, e2, e3, List.length_nil, Bool.not_eq_true', Bool.not_eq_false', beq_iff_eq, beq_eq_false_iff_ne, holds_cons_iff, holds_nil_iff, decide_eq_true_eq]
      exact ⟨⟨by omega, trivial⟩, fun _ => ⟨fun q => (q rfl).elim, fun _ => ⟨fun q => (q rfl).elim, fun _ => ⟨fun q => (q rfl).elim, fun _ => next⟩⟩⟩⟩
    · refine br_f ?_ ?_
      · simp only [E.den, BiO.den, List.getD_cons_zero, List.getD_cons_succ, decide_eq_false_iff_not]; omega
      have hmin : (if (23 : Int) < (S.length : Int) then (23 : Int) else (S.length : Int)) = ((min S.length 23 : Nat) : Int) := by split <;> omega
      obtain ⟨B, hB⟩ : ∃ B, (ones S).take (min S.length 23) ++ [[(0 : Int)]] = B := ⟨_, rfl⟩
      have hBl : B.length = min S.length 23 + 1 := by rw [← hB, List.length_append, List.length_take, ones_len, List.length_singleton]; omega
      have hB1 : ∀ r ∈ B, r.length = 1 := by
        intro r hr
        rw [← hB] at hr
        rcases List.mem_append.1 hr with h | h
        · obtain ⟨x, _, rfl⟩ := List.mem_map.1 (List.mem_of_mem_take h); rfl
        · rw [List.mem_singleton.1 h]; rfl
      have hmod : 0 ≤ at'.tmod ((min S.length 23 : Nat) + 1 : Int) ∧ at'.tmod ((min S.length 23 : Nat) + 1 : Int) < (min S.length 23 : Nat) + 1 := by
        rw [Int.tmod_eq_emod_of_nonneg a0]
        exact ⟨Int.emod_nonneg _ (by omega), Int.emod_lt_of_pos _ (by omega)⟩
      obtain ⟨a, ha⟩ := int_nat hmod.1
      have haB : a < B.length := by omega
      have bad1 : ∀ C : List (List Int), C.length = B.length → (∀ r ∈ C, r.length = 1) → ∀ x : Int, (x < -7600 ∨ 7600 < x) → errI (nums (setAt C a 0 x)) = 240 := by
        intro C hC hC1 x hx
        rw [nums_set C a x hC1]
        refine errI_bad (by rw [List.length_set, nums_len]; omega) (mem_set_self (by rw [nums_len]; omega)) hx
      have many1 : ∀ C : List (List Int), C.length = B.length → errI (nums ([0] :: [0] :: [0] :: [0] :: [0] :: [0] :: [0] :: [0] :: [0] :: [0] :: [0] :: [0] :: [0] :: [0] :: [0] :: [0] :: [0] :: [0] :: [0] :: [0] :: [0] :: [0] :: [0] :: [0] :: C)) = 5 := by
        intro C hC
        refine errI_many ?_
        rw [nums_len]
        simp only [List.length_cons]
        omega
      have hx1 : 7600 < (if (7601 : Int) > n then 7601 else n) := by split <;> omega
      have hx2 : (if (-7601 : Int) < n then -7601 else n) < -7600 := by split <;> omega
      have len1 : ∀ C : List (List Int), C.length = B.length → (C.length : Int) = (if (23 : Int) < ((scoresI (nums l)).length : Int) then 23 else ((scoresI (nums l)).length : Int)) + 1 := by
        intro C hC; rw [hS, hmin]; omega
      have len2 : ∀ C : List (List Int), C.length = B.length → ((([0] :: [0] :: [0] :: [0] :: [0] :: [0] :: [0] :: [0] :: [0] :: [0] :: [0] :: [0] :: [0] :: [0] :: [0] :: [0] :: [0] :: [0] :: [0] :: [0] :: [0] :: [0] :: [0] :: [0] :: C : List (List Int)).length : Nat) : Int) = (if (23 : Int) < ((scoresI (nums l)).length : Int) then 23 else ((scoresI (nums l)).length : Int)) + 25 := by
        intro C hC; rw [hS, hmin]; simp only [List.length_cons]; omega
      simp only [StOk, reps, E.den, BiO.den, UnO.den, I24, List.map_cons, List.map_nil, List.getD_cons_zero, List.getD_cons_succ, hS, ones_len, Int.toNat_natCast, Int.toNat_zero, holds_cons_iff, holds_nil_iff, decide_eq_true_eq, hmin, hB, ha]
      refine ⟨⟨by omega, trivial⟩, fun _ => ⟨⟨by omega, trivial⟩, fun _ => ⟨fun _ => ?_, fun _ => ?_⟩⟩⟩
      · have hC : (setAt (setAt B a 0 (if (7601 : Int) > n then 7601 else n)) a 0 (if (-7601 : Int) < n then -7601 else n)).length = B.length := by rw [setAt_len, setAt_len]
        exact rLWrong2 (n := n) (len1 _ hC) (len2 _ hC) (bad1 _ (setAt_len _ _ _ _) (setAt_one hB1) _ (Or.inl hx2)) (many1 _ hC) 2 0 rfl
      · have hC : (setAt B a 0 (if (7601 : Int) > n then 7601 else n)).length = B.length := setAt_len _ _ _ _
        exact rLWrong2 (n := n) (len1 _ hC) (len2 _ hC) (bad1 _ rfl hB1 _ (Or.inr hx1)) (many1 _ hC) 2 0 rfl

theorem vLWrong1 : cLWrong.Valid (cx [cScores, cCross, cPlain, cButler, cDatum, cAw] [cLWrong.fn]) I24 := by
  refine Ctr.valid_run resp24 (glIn _ _) (allOf (.cons vScores (.cons vCross (.cons vPlain (.cons vButler (.cons vDatum (.cons vAw .nil))))))) (by decide) (by decide) (by kernel_rfl) rfl sLWrong [.l, .i, .i, .b] [.b] (by decide) ?_
  intro ρ0 hρ hpre _
  obtain ⟨l, a, n, b, rfl⟩ := four_w hρ
  have hp := hpre
  simp only [cLWrong, el16, le', List.cons_append, List.nil_append, holds_cons_iff, E.den, BiO.den, TeO.den, List.getD_cons_zero, List.getD_cons_succ, decide_eq_true_eq] at hp
  obtain ⟨hel, a0, a1, n0, n1, _⟩ := hp
  refine ⟨[{ b := true }], Runs.step rfl hpre ?_, rfl⟩
  exact rLWrong1 hel a0 a1 n0 n1 2 0 rfl
theorem vLWrong : ({ cLWrong with outs := [], res := .bool (.bl true) } : Ctr).Valid (cx [cScores, cCross, cPlain, cButler, cDatum, cAw] [cLWrong.fn]) I24 := vLWrong1.said resp24 rfl rfl (by decide)
end Go.Proofs.YtnpadkajapialaaDoor
