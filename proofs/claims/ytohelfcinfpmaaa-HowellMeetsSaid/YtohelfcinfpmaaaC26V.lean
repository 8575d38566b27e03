/- Chapter 26: the check of a starter, and the reference's. -/
import Derived.Test.YtohelfcinfpmaaaC26U
namespace Go.Proofs.Ytohelfcinfpmaaa
open Go Go.Sx Go.Proofs.C26

theorem inside_iff {n : Int} {r : List Int} : inside n r = true ↔ 1 ≤ r.getD 0 0 ∧ r.getD 0 0 < n ∧ 1 ≤ r.getD 1 0 ∧ r.getD 1 0 < n := by simp [inside]

theorem starts_iff {n : Int} {l : List (List Int)} : starts n l = true ↔ (∀ r ∈ l, inside n r = true) ∧ ∀ j : Int, 1 ≤ j → j < n → occ n l 0 j = 1 ∧ occ n l 1 j = 1 := by
  unfold starts
  simp only [Bool.and_eq_true, List.all_eq_true, List.mem_range, beq_iff_eq]
  constructor
  · rintro ⟨h1, h2⟩
    refine ⟨h1, fun j h3 h4 => ?_⟩
    have := h2 (j.toNat - 1) (by omega)
    rwa [show (((j.toNat - 1 : Nat) : Int) + 1) = j from by omega] at this
  · rintro ⟨h1, h2⟩
    exact ⟨h1, fun k hk => h2 _ (by omega) (by omega)⟩

theorem strongS_iff {n : Int} {l : List (List Int)} : strongS n l = true ↔ occ n l 2 0 = 0 ∧ ∀ j : Int, 1 ≤ j → j < n → occ n l 2 j ≤ 1 := by
  unfold strongS
  simp only [Bool.and_eq_true, List.all_eq_true, List.mem_range, beq_iff_eq, decide_eq_true_eq]
  constructor
  · rintro ⟨h1, h2⟩
    refine ⟨h1, fun j h3 h4 => ?_⟩
    have := h2 (j.toNat - 1) (by omega)
    rwa [show (((j.toNat - 1 : Nat) : Int) + 1) = j from by omega] at this
  · rintro ⟨h1, h2⟩
    exact ⟨h1, fun k hk => h2 _ (by omega) (by omega)⟩

theorem check_arg {n : Int} {l : List (List Int)} (h : n.tmod 2 = 0 ∨ n < 3 ∨ 47 < n) : checkS n l = false ∧ checkE n l = 2 := by
  have : checkE n l = 2 := by unfold checkE; rw [if_pos h]
  exact ⟨by unfold checkS; rw [this]; rfl, this⟩
theorem check_not {n : Int} {l : List (List Int)} (h1 : n.tmod 2 ≠ 0) (h2 : 3 ≤ n) (h3 : n ≤ 47) (h : starts n l ≠ true) : checkS n l = false ∧ checkE n l = 260 := by
  have : checkE n l = 260 := by unfold checkE; rw [if_neg (by omega), if_neg h]
  exact ⟨by unfold checkS; rw [this]; rfl, this⟩
theorem check_ok {n : Int} {l : List (List Int)} (h1 : n.tmod 2 ≠ 0) (h2 : 3 ≤ n) (h3 : n ≤ 47) (h : starts n l = true) : checkS n l = strongS n l ∧ checkE n l = 0 := by
  have : checkE n l = 0 := by unfold checkE; rw [if_neg (by omega), if_pos h]
  exact ⟨by unfold checkS; rw [this]; simp, this⟩

def chkOut (n : Int) (l : List (List Int)) : List U := [{ b := checkS n l }, { i := checkE n l }]

/-- the numbers one by one -/
theorem rCheckK {n : Int} {l m : List (List Int)} (h1 : n.tmod 2 ≠ 0) (h3 : 3 ≤ n) (h47 : n ≤ 47) (hl : l.length ≤ 100) (hins : ∀ r ∈ l, inside n r = true)
    (hm : ∀ a k : Int, 0 ≤ a → a ≤ 2 → cell m a k = occ n l a k) : ∀ (f : Nat) (k : Int) (b : Bool), k + f = n → 1 ≤ k →
    (b = true ↔ occ n l 2 0 = 0 ∧ ∀ j : Int, 1 ≤ j → j < k → occ n l 2 j ≤ 1) → (∀ j : Int, 1 ≤ j → j < k → occ n l 0 j = 1 ∧ occ n l 1 j = 1) →
    Runs I26 (tmsCheck.map Tm.pre) ssCheck 3 [{ i := n }, { l := l }, { i := k }, { l := m }, { b := b }] (chkOut n l)
  | f, k, b, hk, hk1, hb, hj => by
    refine Runs.step rfl ?_ ?_
    · simp only [tmsCheck, List.map_cons, List.getD_cons_zero, List.getD_cons_succ, holds_cons_iff, E.den, BiO.den, UnO.den, decide_eq_true_eq, Bool.not_eq_true', beq_eq_false_iff_ne]
      refine ⟨?_, ?_, ?_, ?_, h1, ?_, Holds.nil⟩ <;> omega
    · simp only [StOk, E.den, BiO.den, UnO.den, TeO.den, List.map_cons, List.map_nil, List.getD_cons_zero, List.getD_cons_succ, decide_eq_true_eq, decide_eq_false_iff_not, beq_iff_eq, beq_eq_false_iff_ne, Bool.not_eq_true', Bool.not_eq_false', Int.toNat_natCast]
      change (k < n → ((cell m 0 k ≠ 1 → _ = chkOut n l) ∧ (cell m 0 k = 1 → (cell m 1 k ≠ 1 → _ = chkOut n l) ∧ (cell m 1 k = 1 → (b = true → Runs I26 _ _ 3 [_, _, _, _, { b := decide (cell m 2 k ≤ 1) }] (chkOut n l)) ∧ (b = false → _))))) ∧ _
      rw [hm 0 k (by omega) (by omega), hm 1 k (by omega) (by omega), hm 2 k (by omega) (by omega)]
      have hno : (occ n l 0 k ≠ 1 ∨ occ n l 1 k ≠ 1) → k < n → [({ b := false } : U), { i := 260 }] = chkOut n l := by
        intro h hkn
        have : starts n l ≠ true := fun hs => by have := (starts_iff.1 hs).2 k hk1 hkn; omega
        rw [chkOut, (check_not h1 h3 h47 this).1, (check_not h1 h3 h47 this).2]
      refine ⟨fun hlt => ⟨fun q => hno (.inl (by omega)) hlt, fun q => ⟨fun q' => hno (.inr (by omega)) hlt, fun q' => ⟨fun hbt => ?_, fun hbf => ?_⟩⟩⟩, fun hge => ?_⟩
      · cases f with
        | zero => omega
        | succ f =>
          refine rCheckK h1 h3 h47 hl hins hm f (k + 1) _ (by omega) (by omega) ?_ ?_
          · rw [decide_eq_true_eq]
            have hb' := hb.1 hbt
            constructor
            · intro h2
              refine ⟨hb'.1, fun j hj1 hj2 => ?_⟩
              rcases Int.lt_or_eq_of_le (show j ≤ k by omega) with h | rfl
              · exact hb'.2 j hj1 h
              · omega
            · intro h2
              have := h2.2 k hk1 (by omega)
              omega
          · intro j hj1 hj2
            rcases Int.lt_or_eq_of_le (show j ≤ k by omega) with h | rfl
            · exact hj j hj1 h
            · omega
      · cases f with
        | zero => omega
        | succ f =>
          refine rCheckK h1 h3 h47 hl hins hm f (k + 1) _ (by omega) (by omega) ?_ ?_
          · constructor
            · intro h; cases h
            · intro h
              have : b = true := hb.2 ⟨h.1, fun j hj1 hj2 => h.2 j hj1 (by omega)⟩
              rw [hbf] at this
              exact this
          · intro j hj1 hj2
            rcases Int.lt_or_eq_of_le (show j ≤ k by omega) with h | rfl
            · exact hj j hj1 h
            · omega
      · obtain rfl : k = n := by omega
        have hs : starts k l = true := starts_iff.2 ⟨hins, hj⟩
        have hb2 : b = strongS k l := by
          rw [Bool.eq_iff_iff, strongS_iff]
          exact hb
        rw [chkOut, (check_ok h1 h3 h47 hs).1, (check_ok h1 h3 h47 hs).2, hb2]

theorem out_not {n : Int} {l : List (List Int)} (h1 : n.tmod 2 ≠ 0) (h3 : 3 ≤ n) (h47 : n ≤ 47) {i : Nat} (hi : i < l.length) (h : inside n (l.getD i []) ≠ true) : [({ b := false } : U), { i := 260 }] = chkOut n l := by
  have : starts n l ≠ true := by
    intro hs
    have hr := (starts_iff.1 hs).1 (l.getD i []) (by rw [List.getD_eq_getElem?_getD, List.getElem?_eq_getElem hi]; exact List.getElem_mem hi)
    exact h hr
  rw [chkOut, (check_not h1 h3 h47 this).1, (check_not h1 h3 h47 this).2]

theorem inside_take {n : Int} {l : List (List Int)} {i : Nat} (hi : i < l.length) (h : ∀ r ∈ l.take i, inside n r = true) (hr : inside n (l.getD i []) = true) : ∀ r ∈ l.take (i + 1), inside n r = true := by
  intro r hm
  rw [List.take_succ_eq_append_getElem hi, List.mem_append] at hm
  rcases hm with hm | hm
  · exact h r hm
  · rw [List.mem_singleton] at hm
    subst hm
    rwa [List.getD_eq_getElem?_getD, List.getElem?_eq_getElem hi] at hr

theorem bump_occ {m : List (List Int)} {a k a' k' : Int} {c : Nat} (hc : cell m a' k' = c) (h : c ≤ 1000) : cell (bump m a k) a' k' = (((if a = a' ∧ k = k' then 1 else 0) + c : Nat) : Int) := by
  rw [cell_bump]
  by_cases hh : a = a' ∧ k = k'
  · rw [if_pos hh, if_pos hh, hh.1, hh.2, hc, w64 (by omega) (by omega)]; omega
  · rw [if_neg hh, if_neg hh, hc]; omega

theorem ite1 {P : Prop} [Decidable P] {c b : Nat} (h : c ≤ b) : (if P then 1 else 0) + c ≤ b + 1 := by split <;> omega

/-- one more of a number, in the map -/
def bumpE (M a k : E) : E := .te .put M (.bi .cons a (.bi .cons k .nil)) (.bi .cons a (.bi .cons k (.bi .cons (.un (.wrap .i64) (.bi .add (.te .get M (.bi .find M (.bi .cons a (.bi .cons k .nil))) (.lit 2)) (.lit 1))) .nil)))
theorem bumpE_den {ρ : List U} {M a k : E} : (bumpE M a k).den I26 ρ = { l := bump (M.den I26 ρ).l (a.den I26 ρ).i (k.den I26 ρ).i } := rfl
def pairE : E := .te .get (.bi .row (.bi .cons (.var 4) .nil) (.bi .row (.bi .cons (.var 5) .nil) .nil)) (.var 3) (.lit 0)
def diffE (a b : Nat) : E := .bi .rem (.un (.wrap .i64) (.bi .add (.un (.wrap .i64) (.bi .sub (.var a) (.var b))) (.var 0))) (.var 0)
theorem ss2_check : ssCheck[2]? = some (.br (.bi .lt (.var 3) (.lit 2))
   (.br (.bi .lt pairE (.lit 1))
    (.ret [(.bl false), (.lit 260)])
    (.br (.bi .le (.var 0) pairE)
     (.ret [(.bl false), (.lit 260)])
     (.goto 2 [(.var 0), (.var 1), bumpE (.var 2) (.lit 0) pairE, (.bi .add (.var 3) (.lit 1)), (.var 4), (.var 5), (.var 6)])))
   (.goto 1 [(.var 0), (.var 1), bumpE (bumpE (bumpE (.var 2) (.lit 1) (diffE 4 5)) (.lit 1) (diffE 5 4)) (.lit 2) (.bi .rem (.un (.wrap .i64) (.bi .add (.var 4) (.var 5))) (.var 0)), (.bi .add (.var 6) (.lit 1))])) := by kernel_rfl

theorem rCheck {n : Int} {l : List (List Int)} (h1 : n.tmod 2 ≠ 0) (h3 : 3 ≤ n) (h47 : n ≤ 47) (hl : l.length ≤ 100) : ∀ (f i : Nat) (m : List (List Int)), i + f = l.length → (∀ r ∈ l.take i, inside n r = true) →
    (∀ a k : Int, 0 ≤ a → a ≤ 2 → cell m a k = occ n (l.take i) a k) →
    Runs I26 (tmsCheck.map Tm.pre) ssCheck 1 [{ i := n }, { l := l }, { l := m }, { i := (i : Int) }] (chkOut n l)
  | f, i, m, hi, hins, hm => by
    refine Runs.step rfl ?_ ?_
    · simp only [tmsCheck, List.map_cons, List.getD_cons_zero, List.getD_cons_succ, holds_cons_iff, E.den, BiO.den, UnO.den, decide_eq_true_eq, Bool.not_eq_true', beq_eq_false_iff_ne]
      refine ⟨?_, ?_, ?_, ?_, h1, ?_, Holds.nil⟩ <;> omega
    refine ⟨fun hlt => ?_, fun hge => ?_⟩
    · have hlt' : (i : Int) < l.length := of_decide_eq_true hlt
      cases f with
      | zero => omega
      | succ f =>
        change Runs I26 _ _ 2 [{ i := n }, { l := l }, { l := m }, { i := 0 }, { i := (l.getD i []).getD 0 0 }, { i := (l.getD i []).getD 1 0 }, { i := (i : Int) }] _
        have hpre2 : ∀ (j : Int) (m' : List (List Int)) (x y : Int), 0 ≤ j → j ≤ 2 → Holds I26 [{ i := n }, { l := l }, { l := m' }, { i := j }, { i := x }, { i := y }, { i := (i : Int) }] ((tmsCheck.map Tm.pre).getD 2 []) := by
          intro j m' x y hj0 hj2
          simp only [tmsCheck, List.map_cons, List.getD_cons_zero, List.getD_cons_succ, holds_cons_iff, E.den, BiO.den, UnO.den, decide_eq_true_eq, Bool.not_eq_true', beq_eq_false_iff_ne]
          refine ⟨?_, ?_, ?_, ?_, ?_, ?_, h1, ?_, Holds.nil⟩ <;> omega
        have hbad := @out_not n l h1 h3 h47 i (by omega)
        have hnx : inside n (l.getD i []) = true → ∀ m', (∀ a k : Int, 0 ≤ a → a ≤ 2 → cell m' a k = occ n (l.take (i + 1)) a k) → Runs I26 (tmsCheck.map Tm.pre) ssCheck 1 [{ i := n }, { l := l }, { l := m' }, { i := ((i + 1 : Nat) : Int) }] (chkOut n l) :=
          fun hr m' hm' => rCheck h1 h3 h47 hl f (i + 1) m' (by omega) (inside_take (by omega) hins hr) hm'
        have hoc := fun a k => @occ_take n l a k i (by omega)
        have hbd := fun a k => occ_take_le n l a k i (by omega)
        generalize hr : l.getD i [] = r at hbad hnx hoc ⊢
        refine Runs.step ss2_check (hpre2 0 m _ _ (by omega) (by omega)) ⟨fun _ => ⟨fun hx => ?_, fun hx => ⟨fun hx2 => ?_, fun hx2 => ?_⟩⟩, fun h => by cases h⟩
        · have hx' : r.getD 0 0 < 1 := of_decide_eq_true hx
          exact hbad (fun h => by have := inside_iff.1 h; omega)
        · have hx' : n ≤ r.getD 0 0 := of_decide_eq_true hx2
          exact hbad (fun h => by have := inside_iff.1 h; omega)
        have hx0 : ¬ r.getD 0 0 < 1 := of_decide_eq_false hx
        have hx1 : ¬ n ≤ r.getD 0 0 := of_decide_eq_false hx2
        simp only [StOk, List.map_cons, List.map_nil, bumpE_den]
        change Runs I26 _ _ 2 [{ i := n }, { l := l }, { l := bump m 0 (r.getD 0 0) }, { i := 1 }, { i := r.getD 0 0 }, { i := r.getD 1 0 }, { i := (i : Int) }] _
        refine Runs.step ss2_check (hpre2 1 _ _ _ (by omega) (by omega)) ⟨fun _ => ⟨fun hy => ?_, fun hy => ⟨fun hy2 => ?_, fun hy2 => ?_⟩⟩, fun h => by cases h⟩
        · have hy' : r.getD 1 0 < 1 := of_decide_eq_true hy
          exact hbad (fun h => by have := inside_iff.1 h; omega)
        · have hy' : n ≤ r.getD 1 0 := of_decide_eq_true hy2
          exact hbad (fun h => by have := inside_iff.1 h; omega)
        have hy0 : ¬ r.getD 1 0 < 1 := of_decide_eq_false hy
        have hy1 : ¬ n ≤ r.getD 1 0 := of_decide_eq_false hy2
        simp only [StOk, List.map_cons, List.map_nil, bumpE_den]
        change Runs I26 _ _ 2 [{ i := n }, { l := l }, { l := bump (bump m 0 (r.getD 0 0)) 0 (r.getD 1 0) }, { i := 2 }, { i := r.getD 0 0 }, { i := r.getD 1 0 }, { i := (i : Int) }] _
        have hin : inside n r = true := inside_iff.2 ⟨by omega, by omega, by omega, by omega⟩
        generalize r.getD 0 0 = x at *
        generalize r.getD 1 0 = y at *
        refine Runs.step ss2_check (hpre2 2 _ _ _ (by omega) (by omega)) ⟨fun h => (by cases h), fun _ => ?_⟩
        simp only [StOk, List.map_cons, List.map_nil, bumpE_den]
        change Runs I26 _ _ 1 [{ i := n }, { l := l }, { l := bump (bump (bump (bump (bump m 0 x) 0 y) 1 ((IntKind.wrap .i64 (IntKind.wrap .i64 (x - y) + n)).tmod n)) 1 ((IntKind.wrap .i64 (IntKind.wrap .i64 (y - x) + n)).tmod n)) 2 ((IntKind.wrap .i64 (x + y)).tmod n) }, { i := ((i + 1 : Nat) : Int) }] _
        rw [w64 (show _ ≤ x - y by omega) (by omega), w64 (show _ ≤ y - x by omega) (by omega), w64 (show _ ≤ x - y + n by omega) (by omega), w64 (show _ ≤ y - x + n by omega) (by omega), w64 (show _ ≤ x + y by omega) (by omega)]
        refine hnx hin _ fun a k ha0 ha2 => ?_
        have hb0 := hbd a k
        have hq : occ n (l.take i) a k ≤ 200 := by omega
        rw [bump_occ (bump_occ (bump_occ (bump_occ (bump_occ (hm a k ha0 ha2) (by omega)) (Nat.le_trans (ite1 hq) (by omega))) (Nat.le_trans (ite1 (ite1 hq)) (by omega))) (Nat.le_trans (ite1 (ite1 (ite1 hq))) (by omega))) (Nat.le_trans (ite1 (ite1 (ite1 (ite1 hq)))) (by omega)), hoc]
        rcases (show a = 0 ∨ a = 1 ∨ a = 2 by omega) with rfl | rfl | rfl <;> simp only [occ1, true_and, Int.reduceEq, false_and, if_true, if_false] <;> (repeat' split) <;> omega
    · have hge' : ¬ (i : Int) < l.length := of_decide_eq_false hge
      obtain rfl : i = l.length := by omega
      rw [List.take_length] at hins hm
      change Runs I26 _ _ 3 [{ i := n }, { l := l }, { i := 1 }, { l := m }, { b := cell m 2 0 == 0 }] _
      refine rCheckK h1 h3 h47 hl hins hm (n.toNat - 1) 1 _ (by omega) (by omega) ?_ (fun j h h' => by omega)
      rw [hm 2 0 (by omega) (by omega), beq_iff_eq]
      constructor
      · intro h; exact ⟨by omega, fun j h h' => by omega⟩
      · intro h; have := h.1; omega
end Go.Proofs.Ytohelfcinfpmaaa
