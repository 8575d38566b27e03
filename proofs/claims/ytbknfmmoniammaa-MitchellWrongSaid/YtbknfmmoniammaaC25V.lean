/- Chapter 25: who sits where: the program's answers. -/
import Derived.Test.YtbknfmmoniammaaC25U
namespace Go.Proofs.Ytbknfmmoniammaa
open Go Go.Sx Go.Proofs.C25

/-! ### is a number in a list? -/
theorem nums_take (A : List (List Int)) (n : Nat) : nums (A.take n) = (nums A).take n := by unfold nums; rw [List.map_take]
theorem nums_get (A : List (List Int)) (i : Nat) : (nums A).getD i 0 = (A.getD i []).getD 0 0 := by
  unfold nums
  rw [List.getD_eq_getElem?_getD, List.getElem?_map, List.getD_eq_getElem?_getD (l := A)]
  cases A[i]? <;> rfl
theorem nums_len (A : List (List Int)) : (nums A).length = A.length := by simp [nums]

theorem rHas {A : List (List Int)} {n : Nat} {x : Int} (hn : n ≤ A.length) (hA : A.length ≤ 100000) : ∀ f i : Nat, i + f = n → ((nums A).take i).contains x = false →
    Runs I25 (tmsHas.map Tm.pre) ssHas 1 [{ l := A }, { i := (n : Int) }, { i := x }, { i := (i : Int) }] [{ b := hasN A n x }]
  | f, i, hf, hi => by
    refine Runs.step rfl ?_ ?_
    · simp only [tmsHas, List.map_cons, List.getD_cons_zero, List.getD_cons_succ, holds_cons_iff, E.den, BiO.den, UnO.den, decide_eq_true_eq]
      (repeat' refine And.intro ?_ ?_) <;> first | exact Holds.nil | omega
    · simp only [StOk, E.den, BiO.den, TeO.den, List.map_cons, List.map_nil, List.getD_cons_zero, List.getD_cons_succ, decide_eq_true_eq, decide_eq_false_iff_not, beq_iff_eq, beq_eq_false_iff_ne, Int.toNat_zero, Int.toNat_natCast]
      rw [← nums_get]
      have hs (h : i < n) : (nums A).take (i + 1) = (nums A).take i ++ [(nums A).getD i 0] := by
        rw [List.take_add_one, List.getD_eq_getElem?_getD, List.getElem?_eq_getElem (by rw [nums_len]; omega)]
        rfl
      refine ⟨fun hlt => ⟨fun he => ?_, fun hne => ?_⟩, fun hge => ?_⟩
      · have : hasN A n x = true := by
          unfold hasN
          rw [nums_take, List.contains_iff_mem, he, List.getD_eq_getElem?_getD, List.getElem?_eq_getElem (by rw [nums_len]; omega), Option.getD_some]
          exact List.mem_take_iff_getElem.2 ⟨i, by rw [nums_len]; omega, rfl⟩
        rw [this]
      · cases f with
        | zero => omega
        | succ f =>
          refine rHas hn hA f (i + 1) (by omega) ?_
          rw [hs (by omega), Bool.eq_false_iff]
          intro hc
          rw [List.contains_iff_mem, List.mem_append] at hc
          rcases hc with hc | hc
          · rw [← List.contains_iff_mem] at hc
            rw [hc] at hi
            cases hi
          · exact hne (List.mem_singleton.1 hc)
      · have hin : i = n := by omega
        subst hin
        have : hasN A i x = false := by unfold hasN; rw [nums_take]; exact hi
        rw [this]
theorem three_lii {ρ0 : List U} (h : ρ0 = normU [.l, .i, .i] ρ0) : ∃ (a : List (List Int)) (b c : Int), ρ0 = [{ l := a }, { i := b }, { i := c }] := ⟨_, _, _, h⟩
theorem vHas : cHas.Valid (cx [] []) I25 := by
  refine re (Ctr.valid_run resp25 (glIn _ _) (fun c hc => by cases hc) (by decide) (by decide) (by kernel_rfl) rfl sHas [.l, .i, .i] [.b] (by decide) ?_)
  intro ρ0 hρ hpre _
  obtain ⟨A, n, x, rfl⟩ := three_lii hρ
  have hp := hpre
  simp only [cHas, long, holds_cons_iff, E.den, BiO.den, UnO.den, List.getD_cons_zero, List.getD_cons_succ, decide_eq_true_eq] at hp
  obtain ⟨p1, p2, p3, _⟩ := hp
  obtain ⟨n, rfl⟩ := int_nat p1
  exact ⟨[{ b := hasN A n x }], Runs.step rfl hpre (rHas (by omega) (by omega) n 0 (by omega) rfl), rfl⟩

/-! ### Pairs -/
theorem seats_app (a b : List (List Int)) : seats (a ++ b) = seats a ++ seats b := by unfold seats; rw [List.flatMap_append]
theorem seats_len (m : List (List Int)) : (seats m).length = 2 * m.length := by
  unfold seats
  induction m with
  | nil => rfl
  | cons r m ih => rw [List.flatMap_cons, List.length_append, ih, List.length_cons]; simp; omega
theorem take_snoc {α : Type} {l : List α} {i : Nat} (h : i < l.length) (d : α) : l.take (i + 1) = l.take i ++ [l.getD i d] := by
  rw [List.take_add_one, List.getD_eq_getElem?_getD, List.getElem?_eq_getElem h]; rfl
theorem rPairs {m : List (List Int)} (hm : m.length ≤ 5000) : ∀ f i : Nat, i + f = m.length →
    Runs I25 (tmsPairs.map Tm.pre) ssPairs 1 [{ l := m }, { l := seats (m.take i) }, { i := (i : Int) }] [{ l := srtAll (seats m) }, { i := srtLen (seats m) }]
  | f, i, hf => by
    have hl : (seats (m.take i)).length = 2 * i := by rw [seats_len, List.length_take]; omega
    refine Runs.step rfl ?_ ?_
    · simp only [tmsPairs, List.map_cons, List.getD_cons_zero, List.getD_cons_succ, holds_cons_iff, E.den, BiO.den, UnO.den, decide_eq_true_eq, hl]
      (repeat' refine And.intro ?_ ?_) <;> first | exact Holds.nil | omega
    · simp only [StOk, E.den, BiO.den, UnO.den, TeO.den, List.map_cons, List.map_nil, List.getD_cons_zero, List.getD_cons_succ, decide_eq_true_eq, decide_eq_false_iff_not, holds_cons_iff, holds_nil_iff, Int.toNat_natCast, hl, show Int.toNat 2 = 2 from rfl, show Int.toNat 3 = 3 from rfl]
      refine ⟨fun hlt => ⟨⟨by omega, trivial⟩, fun _ => ?_⟩, fun hge => ⟨⟨by omega, trivial⟩, fun _ => ?_⟩⟩
      · cases f with
        | zero => omega
        | succ f =>
          have ih := rPairs hm f (i + 1) (by omega)
          rw [take_snoc (by omega) [], seats_app] at ih
          rw [List.append_assoc]
          exact ih
      · rw [List.take_of_length_le (by omega)]
        rfl
theorem six_m {ρ0 : List U} (h : ρ0 = normU [.i, .i, .i, .i, .i, .l] ρ0) : ∃ (a b c d e : Int) (m : List (List Int)), ρ0 = [{ i := a }, { i := b }, { i := c }, { i := d }, { i := e }, { l := m }] := ⟨_, _, _, _, _, _, h⟩
theorem vPairs : cPairs.Valid (cx [] []) I25 := by
  refine re (Ctr.valid_run resp25 (glIn _ _) (allOf (.cons vSorted .nil)) (by decide) (by decide) (by kernel_rfl) rfl sPairs [.i, .i, .i, .i, .i, .l] [.l, .i] (by decide) ?_)
  intro ρ0 hρ hpre _
  obtain ⟨a, b, c, d, e, m, rfl⟩ := six_m hρ
  have hp := hpre
  simp only [cPairs, most, holds_cons_iff, E.den, BiO.den, UnO.den, List.getD_cons_zero, List.getD_cons_succ, decide_eq_true_eq] at hp
  exact ⟨[{ l := srtAll (seats m) }, { i := srtLen (seats m) }], Runs.step rfl hpre (rPairs (by omega) m.length 0 (by omega)), rfl⟩

/-! ### Where -/
def whOut (w : List (List Int)) : List U := [{ i := (w.getD 0 []).getD 0 0 }, { i := (w.getD 0 []).getD 1 0 }, { i := (w.getD 0 []).getD 2 0 }, { i := (w.getD 0 []).getD 3 0 }, { i := (w.getD 0 []).getD 4 0 }, { b := decide ((0 : Int) < (w.length : Int)) }]
def whP (round p : Int) (r : List Int) : Bool := decide (1 ≤ p) && (r.getD 0 0 == round && (r.getD 2 0 == p || r.getD 3 0 == p))
theorem rWhere {m : List (List Int)} {round p : Int} (hm : m.length ≤ 5000) : ∀ f i : Nat, i + f = m.length → whereR m round p = whereR (m.drop i) round p →
    Runs I25 (tmsWhere.map Tm.pre) ssWhere 1 [{ l := m }, { i := round }, { i := p }, { i := (i : Int) }] (whOut (whereR m round p))
  | f, i, hf, hd => by
    refine Runs.step rfl ?_ ?_
    · simp only [tmsWhere, List.map_cons, List.getD_cons_zero, List.getD_cons_succ, holds_cons_iff, E.den, BiO.den, UnO.den, decide_eq_true_eq]
      (repeat' refine And.intro ?_ ?_) <;> first | exact Holds.nil | omega
    · simp only [StOk, E.den, BiO.den, UnO.den, TeO.den, List.map_cons, List.map_nil, List.getD_cons_zero, List.getD_cons_succ, decide_eq_true_eq, decide_eq_false_iff_not, beq_iff_eq, beq_eq_false_iff_ne, Int.toNat_natCast, Int.toNat_zero, show Int.toNat 1 = 1 from rfl, show Int.toNat 2 = 2 from rfl, show Int.toNat 3 = 3 from rfl, show Int.toNat 4 = 4 from rfl]
      refine ⟨fun hlt => ?_, fun hge => ?_⟩
      · have hdr : m.drop i = m.getD i [] :: m.drop (i + 1) := by
          rw [List.drop_eq_getElem_cons (show i < m.length from by omega), List.getD_eq_getElem?_getD, List.getElem?_eq_getElem (by omega)]; rfl
        have yes (h : whP round p (m.getD i []) = true) : [({ i := (m.getD i []).getD 0 0 } : U), { i := (m.getD i []).getD 1 0 }, { i := (m.getD i []).getD 2 0 }, { i := (m.getD i []).getD 3 0 }, { i := (m.getD i []).getD 4 0 }, { b := true }] = whOut (whereR m round p) := by
          rw [hd, hdr]
          have : whereR (m.getD i [] :: m.drop (i + 1)) round p = [m.getD i []] := by
            show ((m.getD i [] :: m.drop (i + 1)).find? (whP round p)).toList = _
            rw [List.find?_cons_of_pos h]; rfl
          rw [this, whOut, List.length_singleton]
          rfl
        have no (h : whP round p (m.getD i []) = false) : Runs I25 (tmsWhere.map Tm.pre) ssWhere 1 [{ l := m }, { i := round }, { i := p }, { i := (i : Int) + 1 }] (whOut (whereR m round p)) := by
          cases f with
          | zero => omega
          | succ f =>
            refine rWhere hm f (i + 1) (by omega) ?_
            rw [hd, hdr]
            show ((m.getD i [] :: m.drop (i + 1)).find? (whP round p)).toList = _
            rw [List.find?_cons_of_neg (by rw [h]; decide)]
            rfl
        have hw : whP round p (m.getD i []) = true ↔ 1 ≤ p ∧ (m.getD i []).getD 0 0 = round ∧ ((m.getD i []).getD 2 0 = p ∨ (m.getD i []).getD 3 0 = p) := by
          unfold whP
          simp only [Bool.and_eq_true, Bool.or_eq_true, decide_eq_true_eq, beq_iff_eq]
        have hw' (h : ¬ (1 ≤ p ∧ (m.getD i []).getD 0 0 = round ∧ ((m.getD i []).getD 2 0 = p ∨ (m.getD i []).getD 3 0 = p))) : whP round p (m.getD i []) = false := Bool.eq_false_iff.2 (fun e => h (hw.1 e))
        exact ⟨fun a => ⟨fun b => ⟨fun c => yes (hw.2 ⟨a, b, Or.inl c⟩), fun c => ⟨fun d => yes (hw.2 ⟨a, b, Or.inr d⟩), fun d => no (hw' (by rintro ⟨_, _, h | h⟩; exact c h; exact d h))⟩⟩, fun b => no (hw' (fun h => b h.2.1))⟩, fun a => no (hw' (fun h => a h.1))⟩
      · rw [hd, List.drop_of_length_le (by omega)]
        rfl
theorem eight_m {ρ0 : List U} (h : ρ0 = normU [.i, .i, .i, .i, .i, .l, .i, .i] ρ0) : ∃ (a b c d e : Int) (m : List (List Int)) (x y : Int), ρ0 = [{ i := a }, { i := b }, { i := c }, { i := d }, { i := e }, { l := m }, { i := x }, { i := y }] := ⟨_, _, _, _, _, _, _, _, h⟩
theorem vWhere : cWhere.Valid (cx [] []) I25 := by
  refine re (Ctr.valid_run resp25 (glIn _ _) (fun c hc => by cases hc) (by decide) (by decide) (by kernel_rfl) rfl sWhere [.i, .i, .i, .i, .i, .l, .i, .i] [.i, .i, .i, .i, .i, .b] (by decide) ?_)
  intro ρ0 hρ hpre _
  obtain ⟨a, b, c, d, e, m, x, y, rfl⟩ := eight_m hρ
  have hp := hpre
  simp only [cWhere, most, holds_cons_iff, E.den, BiO.den, UnO.den, List.getD_cons_zero, List.getD_cons_succ, decide_eq_true_eq] at hp
  exact ⟨whOut (whereR m x y), Runs.step rfl hpre (rWhere (by omega) m.length 0 (by omega) rfl), rfl⟩
end Go.Proofs.Ytbknfmmoniammaa
