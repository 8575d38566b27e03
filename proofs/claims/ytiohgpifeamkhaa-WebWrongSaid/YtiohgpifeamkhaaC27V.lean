/- Chapter 27: who shares a set, who feeds whom, at most one; the examples of the chapter. -/
import Derived.Test.YtiohgpifeamkhaaC27U
import Derived.Test.YtiohgpifeamkhaaC27Sa
namespace Go.Proofs.Ytiohgpifeamkhaa
open Go Go.Sx Go.Proofs.C27

theorem vSort2 : cSort2.Valid (cx [] []) I27 := by
  refine re (Ctr.valid_run (C := cx [cLen1] [65]) resp27 (glIn _ _) (allOf (.cons (vLen1 rfl) .nil)) (by decide) (by decide) (by kernel_rfl) rfl sSort2 [.l] [.l] (by decide) ?_)
  intro ρ0 hρ hpre _
  obtain ⟨a, rfl⟩ := one_l hρ
  have hp := hpre
  simp only [cSort2, holds_cons_iff, E.den, BiO.den, UnO.den, List.getD_cons_zero, decide_eq_true_eq] at hp
  refine ⟨[{ l := a }], Runs.step rfl hpre ?_, rfl⟩
  show Runs _ _ _ 1 [{ l := a }] _
  refine Runs.step rfl ?_ rfl
  simp only [tmsSort2, List.map_cons, List.getD_cons_zero, List.getD_cons_succ, holds_cons_iff, E.den, BiO.den, UnO.den, decide_eq_true_eq]
  exact ⟨hp.1, Holds.nil⟩
theorem two_li {ρ0 : List U} (h : ρ0 = normU [.l, .i] ρ0) : ∃ (a : List (List Int)) (b : Int), ρ0 = [{ l := a }, { i := b }] := ⟨_, _, h⟩
theorem vCompact1 : cCompact1.Valid (cx [] []) I27 := by
  refine re (Ctr.valid_run (C := cx [] [50]) resp27 (glIn _ _) (fun c hc => by cases hc) (by decide) (by decide) (by kernel_rfl) rfl sCompact1 [.l, .i] [.l, .i] (by decide) ?_)
  intro ρ0 hρ hpre _
  obtain ⟨a, n, rfl⟩ := two_li hρ
  exact ⟨[{ l := a }, { i := n }], Runs.step rfl hpre rfl, rfl⟩

/-! ### Shared -/
theorem take_snoc {α : Type} {l : List α} {i : Nat} (h : i < l.length) (d : α) : l.take (i + 1) = l.take i ++ [l.getD i d] := by
  rw [List.take_add_one, List.getElem?_eq_getElem h, List.getD_eq_getElem?_getD, List.getElem?_eq_getElem h]; rfl
theorem sharedA_snoc (round : Int) (A : List (List Int)) (b x : List Int) : sharedA round (A ++ [b]) x = sharedA round A x ++ (if x.getD 0 0 = round ∧ b.getD 0 0 = round ∧ x.getD 4 0 = b.getD 4 0 ∧ ¬ x.getD 1 0 = b.getD 1 0 then [[if b.getD 1 0 < x.getD 1 0 then b.getD 1 0 else x.getD 1 0, if b.getD 1 0 > x.getD 1 0 then b.getD 1 0 else x.getD 1 0]] else []) := by
  unfold sharedA
  rw [List.filter_append, List.map_append]
  congr 1
  rw [List.filter_cons, List.filter_nil]
  have e : (x.getD 0 0 == round && (b.getD 0 0 == round && (x.getD 4 0 == b.getD 4 0 && x.getD 1 0 != b.getD 1 0))) = decide (x.getD 0 0 = round ∧ b.getD 0 0 = round ∧ x.getD 4 0 = b.getD 4 0 ∧ ¬ x.getD 1 0 = b.getD 1 0) := by
    rw [Bool.eq_iff_iff]
    simp only [Bool.and_eq_true, beq_iff_eq, bne_iff_ne, decide_eq_true_eq]
  rw [e]
  split
  · rename_i h; rw [if_pos (of_decide_eq_true h)]; rfl
  · rename_i h; rw [if_neg (fun q => h (decide_eq_true q))]; rfl
def sharedI (m : List (List Int)) (round : Int) (i : Nat) : List (List Int) := (List.range i).flatMap fun i => sharedA round (m.take i) (m.getD i [])
theorem sharedI_succ (m : List (List Int)) (round : Int) (i : Nat) : sharedI m round (i + 1) = sharedI m round i ++ sharedA round (m.take i) (m.getD i []) := by
  unfold sharedI; rw [List.range_succ, List.flatMap_append]; simp
theorem sharedA_len (round : Int) (A : List (List Int)) (x : List Int) : (sharedA round A x).length ≤ A.length := by
  unfold sharedA; rw [List.length_map]; exact List.length_filter_le _ _
theorem sharedI_len (m : List (List Int)) (round : Int) : ∀ i, (sharedI m round i).length ≤ i * i
  | 0 => by simp [sharedI]
  | i + 1 => by
    rw [sharedI_succ, List.length_append]
    have h1 := sharedI_len m round i
    have h2 := sharedA_len round (m.take i) (m.getD i [])
    rw [List.length_take] at h2
    have : (i + 1) * (i + 1) = i * i + i + i + 1 := by rw [Nat.add_mul, Nat.mul_add, Nat.one_mul, Nat.mul_one]; omega
    omega

section
variable {a b c d e round : Int} {m : List (List Int)}
theorem rShared1 (hm : m.length ≤ 5000) (h1 : (sharedP m round).length ≤ 1) : ∀ f i : Nat, i + f = m.length →
    Runs I27 (tmsShared.map Tm.pre) ssShared 1 [{ i := a }, { i := b }, { i := c }, { i := d }, { i := e }, { l := m }, { i := round }, { i := (i : Int) }, { l := sharedI m round i }] [{ l := sharedP m round }]
  | f, i, hf => by
    refine Runs.step rfl ?_ ?_
    · simp only [tmsShared, List.map_cons, List.getD_cons_zero, List.getD_cons_succ, holds_cons_iff, E.den, BiO.den, UnO.den, I27, decide_eq_true_eq]
      exact ⟨by omega, by omega, by omega, by omega, Holds.nil⟩
    cases f with
    | zero =>
      have hi : i = m.length := by omega
      subst hi
      refine br_f ?_ ?_
      · simp only [E.den, BiO.den, UnO.den, List.getD_cons_zero, List.getD_cons_succ, decide_eq_false_iff_not]; omega
      · have he : sharedI m round m.length = sharedP m round := rfl
        rw [he]
        refine ne_ed ?_ rfl
        simp only [holds_cons_iff, holds_nil_iff, E.den, BiO.den, UnO.den, List.getD_cons_zero, List.getD_cons_succ, decide_eq_true_eq]
        exact ⟨by omega, trivial⟩
    | succ f =>
      have hi : i < m.length := by omega
      refine br_t ?_ ?_
      · simp only [E.den, BiO.den, UnO.den, List.getD_cons_zero, List.getD_cons_succ, decide_eq_true_eq]; omega
      simp only [StOk, E.den, TeO.den, List.map_cons, List.map_nil, List.getD_cons_zero, List.getD_cons_succ, Int.toNat_natCast, show Int.toNat 0 = 0 from rfl, show Int.toNat 1 = 1 from rfl, show Int.toNat 2 = 2 from rfl, show Int.toNat 3 = 3 from rfl, show Int.toNat 4 = 4 from rfl]
      obtain ⟨x, hx⟩ : ∃ x, m.getD i [] = x := ⟨_, rfl⟩
      rw [hx]
      have hs := sharedI_succ m round i
      rw [hx] at hs
      have hll := sharedI_len m round i
      have hii : i * i ≤ 5000 * 5000 := Nat.mul_le_mul (by omega) (by omega)
      have inner : ∀ g j : Nat, j + g = i → Runs I27 (tmsShared.map Tm.pre) ssShared 2 [{ i := a }, { i := b }, { i := c }, { i := d }, { i := e }, { l := m }, { i := round }, { i := x.getD 0 0 }, { i := x.getD 1 0 }, { i := x.getD 2 0 }, { i := x.getD 3 0 }, { i := x.getD 4 0 }, { i := (i : Int) }, { l := sharedI m round i ++ sharedA round (m.take j) x }, { i := (j : Int) }] [{ l := sharedP m round }] := by
        intro g
        induction g with
        | zero =>
          intro j hj
          have hj' : j = i := by omega
          subst hj'
          refine Runs.step rfl ?_ ?_
          · simp only [tmsShared, List.map_cons, List.getD_cons_zero, List.getD_cons_succ, holds_cons_iff, E.den, BiO.den, UnO.den, I27, decide_eq_true_eq]
            exact ⟨by omega, by omega, by omega, by omega, by omega, Holds.nil⟩
          refine br_f ?_ ?_
          · simp only [E.den, BiO.den, List.getD_cons_zero, List.getD_cons_succ, decide_eq_false_iff_not]; omega
          · have := rShared1 hm h1 f (j + 1) (by omega)
            rw [hs, Int.natCast_add, Int.natCast_one] at this
            exact this
        | succ g ih =>
          intro j hj
          have ih' := ih (j + 1) (by omega)
          have hsl := sharedA_len round (m.take j) x
          rw [List.length_take] at hsl
          rw [take_snoc (show j < m.length by omega) [], sharedA_snoc, ← List.append_assoc, Int.natCast_add, Int.natCast_one] at ih'
          refine Runs.step rfl ?_ ?_
          · simp only [tmsShared, List.map_cons, List.getD_cons_zero, List.getD_cons_succ, holds_cons_iff, E.den, BiO.den, UnO.den, I27, decide_eq_true_eq]
            exact ⟨by omega, by omega, by omega, by omega, by omega, Holds.nil⟩
          refine br_t ?_ ?_
          · simp only [E.den, BiO.den, List.getD_cons_zero, List.getD_cons_succ, decide_eq_true_eq]; omega
          simp only [StOk, E.den, BiO.den, UnO.den, TeO.den, List.map_cons, List.map_nil, List.getD_cons_zero, List.getD_cons_succ, Int.toNat_natCast, show Int.toNat 0 = 0 from rfl, show Int.toNat 1 = 1 from rfl, show Int.toNat 4 = 4 from rfl, beq_iff_eq, beq_eq_false_iff_ne, Bool.not_eq_true', Bool.not_eq_false', holds_cons_iff, holds_nil_iff, decide_eq_true_eq, List.length_append]
          refine ⟨fun q0 => ⟨fun q1 => ⟨fun q2 => ⟨fun q3 => ⟨⟨by omega, trivial⟩, fun _ => ?_⟩, fun q3 => ?_⟩, fun q2 => ?_⟩, fun q1 => ?_⟩, fun q0 => ?_⟩
          · rw [if_pos ⟨q0, q1, q2, q3⟩] at ih'; exact ih'
          · rw [if_neg (fun h => h.2.2.2 q3), List.append_nil] at ih'; exact ih'
          · rw [if_neg (fun h => q2 h.2.2.1), List.append_nil] at ih'; exact ih'
          · rw [if_neg (fun h => q1 h.2.1), List.append_nil] at ih'; exact ih'
          · rw [if_neg (fun h => q0 h.1), List.append_nil] at ih'; exact ih'
      have := inner i 0 (by omega)
      rw [List.take_zero, show sharedA round [] x = [] from rfl, List.append_nil] at this
      exact this
end
theorem vShared : cShared.Valid (cx [] []) I27 := by
  refine re (Ctr.valid_run (C := cx [cSort2] [cShared.fn, 59, 48]) resp27 (glIn _ _) (allOf (.cons vSort2 .nil)) (by decide) (by decide) (by kernel_rfl) rfl sShared [.i, .i, .i, .i, .i, .l, .i] [.l] (by decide) ?_)
  intro ρ0 hρ hpre _
  obtain ⟨a, b, c, d, e, m, x, rfl⟩ := seven_m hρ
  have hp := hpre
  simp only [cShared, most, holds_cons_iff, E.den, BiO.den, UnO.den, I27, List.getD_cons_zero, List.getD_cons_succ, decide_eq_true_eq] at hp
  have h1 : (m.length : Int) ≤ 5000 := hp.1
  have h2 : ((sharedP m x).length : Int) ≤ 1 := hp.2.1
  refine ⟨[{ l := sharedP m x }], Runs.step rfl hpre ?_, rfl⟩
  exact rShared1 (by omega) (by omega) m.length 0 (by omega)

/-! ### Feeds -/
theorem feedsA_snoc {A : List (List Int)} {b : List Int} {round table : Int} {x : List Int} : feedsA (A ++ [b]) round table x = feedsA A round table x ++ (if b.getD 0 0 < round ∧ b.getD 0 0 = IntKind.wrap .i64 (round + -1) ∧ b.getD 4 0 = x.getD 4 0 ∧ ¬ b.getD 1 0 = table then [[b.getD 1 0]] else []) := by
  unfold feedsA
  rw [List.filter_append, List.map_append]
  congr 1
  rw [List.filter_cons, List.filter_nil]
  have e : (decide (b.getD 0 0 < round) && (b.getD 0 0 == IntKind.wrap .i64 (round - 1) && (b.getD 4 0 == x.getD 4 0 && b.getD 1 0 != table))) = decide (b.getD 0 0 < round ∧ b.getD 0 0 = IntKind.wrap .i64 (round + -1) ∧ b.getD 4 0 = x.getD 4 0 ∧ ¬ b.getD 1 0 = table) := by
    rw [Bool.eq_iff_iff]
    simp only [Bool.and_eq_true, beq_iff_eq, bne_iff_ne, decide_eq_true_eq]
    exact Iff.rfl
  rw [e]
  split
  · rename_i h; rw [if_pos (of_decide_eq_true h)]; rfl
  · rename_i h; rw [if_neg (fun q => h (decide_eq_true q))]; rfl
theorem feedsA_len (m : List (List Int)) (round table : Int) (x : List Int) : (feedsA m round table x).length ≤ m.length := by
  unfold feedsA; rw [List.length_map]; exact List.length_filter_le _ _
def feedsQ (m : List (List Int)) (round table : Int) (A : List (List Int)) : List (List Int) := (A.filter fun a => a.getD 0 0 == round && a.getD 1 0 == table).flatMap (feedsA m round table)
theorem feedsQ_snoc (m : List (List Int)) (round table : Int) (A : List (List Int)) (x : List Int) : feedsQ m round table (A ++ [x]) = feedsQ m round table A ++ if x.getD 0 0 = round ∧ x.getD 1 0 = table then feedsA m round table x else [] := by
  unfold feedsQ
  rw [List.filter_append, List.flatMap_append]
  congr 1
  rw [List.filter_cons, List.filter_nil]
  by_cases h : x.getD 0 0 = round ∧ x.getD 1 0 = table
  · rw [if_pos h, if_pos (by rw [Bool.and_eq_true, beq_iff_eq, beq_iff_eq]; exact h)]; simp
  · rw [if_neg h, if_neg (by rw [Bool.and_eq_true, beq_iff_eq, beq_iff_eq]; exact h)]; rfl
theorem feedsQ_len (m : List (List Int)) (round table : Int) : ∀ A : List (List Int), (feedsQ m round table A).length ≤ A.length * m.length
  | [] => by simp [feedsQ]
  | x :: A => by
    have h1 := feedsQ_len m round table A
    have h2 := feedsA_len m round table x
    have e : (feedsQ m round table (x :: A)).length ≤ (feedsA m round table x).length + (feedsQ m round table A).length := by
      unfold feedsQ
      rw [List.filter_cons]
      split
      · rw [List.flatMap_cons, List.length_append]; omega
      · omega
    rw [List.length_cons, Nat.add_mul, Nat.one_mul]
    omega
theorem feeds_one {m : List (List Int)} {round table : Int} : ∀ r ∈ feedsP m round table, r.length = 1 := by
  intro r hr
  unfold feedsP at hr
  obtain ⟨x, _, hx⟩ := List.mem_flatMap.1 hr
  unfold feedsA at hx
  obtain ⟨y, _, rfl⟩ := List.mem_map.1 hx
  rfl
theorem sortPre_one' {L : List (List Int)} (h : L.length ≤ 1) (h1 : ∀ r ∈ L, r.length = 1) : sortPre L L.length = L := by
  match L, h with
  | [], _ => exact sortPre_0 []
  | [r], _ =>
    have := h1 r (by simp)
    match r, this with
    | [x], _ => simp [sortPre]

section
variable {a b c d e round table : Int} {m : List (List Int)}
theorem rFeeds1 (hm : m.length ≤ 5000) (h1 : (feedsP m round table).length ≤ 1) : ∀ f i : Nat, i + f = m.length →
    Runs I27 (tmsFeeds.map Tm.pre) ssFeeds 1 [{ i := a }, { i := b }, { i := c }, { i := d }, { i := e }, { l := m }, { i := round }, { i := table }, { i := (i : Int) }, { l := feedsQ m round table (m.take i) }] [{ l := feedsP m round table }, { i := ((feedsP m round table).length : Int) }]
  | f, i, hf => by
    refine Runs.step rfl ?_ ?_
    · simp only [tmsFeeds, List.map_cons, List.getD_cons_zero, List.getD_cons_succ, holds_cons_iff, E.den, BiO.den, UnO.den, I27, decide_eq_true_eq]
      exact ⟨by omega, by omega, by omega, by omega, Holds.nil⟩
    cases f with
    | zero =>
      have hi : i = m.length := by omega
      subst hi
      refine br_f ?_ ?_
      · simp only [E.den, BiO.den, UnO.den, List.getD_cons_zero, List.getD_cons_succ, decide_eq_false_iff_not]; omega
      · have he : feedsQ m round table (m.take m.length) = feedsP m round table := by rw [List.take_length]; rfl
        rw [he]
        have hsp := sortPre_one' h1 feeds_one
        simp only [StOk, E.den, BiO.den, UnO.den, I27, List.map_cons, List.map_nil, List.getD_cons_zero, List.getD_cons_succ, holds_cons_iff, holds_nil_iff, decide_eq_true_eq, Int.toNat_natCast, hsp]
        exact ⟨⟨by omega, trivial⟩, fun _ => ⟨⟨by omega, by omega, trivial⟩, fun _ => trivial⟩⟩
    | succ f =>
      have hi : i < m.length := by omega
      refine br_t ?_ ?_
      · simp only [E.den, BiO.den, UnO.den, List.getD_cons_zero, List.getD_cons_succ, decide_eq_true_eq]; omega
      simp only [StOk, E.den, BiO.den, UnO.den, TeO.den, List.map_cons, List.map_nil, List.getD_cons_zero, List.getD_cons_succ, Int.toNat_natCast, show Int.toNat 0 = 0 from rfl, show Int.toNat 1 = 1 from rfl, show Int.toNat 2 = 2 from rfl, show Int.toNat 3 = 3 from rfl, show Int.toNat 4 = 4 from rfl, beq_iff_eq, beq_eq_false_iff_ne, Bool.not_eq_true', Bool.not_eq_false']
      have next := rFeeds1 hm h1 f (i + 1) (by omega)
      rw [take_snoc hi [], feedsQ_snoc, Int.natCast_add, Int.natCast_one] at next
      obtain ⟨x, hx⟩ : ∃ x, m.getD i [] = x := ⟨_, rfl⟩
      rw [hx] at next ⊢
      refine ⟨fun q => ?_, fun q => ⟨fun q' => ?_, fun q' => ?_⟩⟩
      · rw [if_neg (fun h => q h.1), List.append_nil] at next; exact next
      · rw [if_neg (fun h => q' h.2), List.append_nil] at next; exact next
      · rw [if_pos ⟨q, q'⟩] at next
        have hll := feedsQ_len m round table (m.take i)
        have hii : (m.take i).length * m.length ≤ 5000 * 5000 := Nat.mul_le_mul (by rw [List.length_take]; omega) hm
        have inner : ∀ g j : Nat, j + g = m.length → Runs I27 (tmsFeeds.map Tm.pre) ssFeeds 2 [{ i := a }, { i := b }, { i := c }, { i := d }, { i := e }, { l := m }, { i := round }, { i := table }, { l := feedsQ m round table (m.take i) ++ feedsA (m.take j) round table x }, { i := (j : Int) }, { i := x.getD 0 0 }, { i := x.getD 1 0 }, { i := x.getD 2 0 }, { i := x.getD 3 0 }, { i := x.getD 4 0 }, { i := (i : Int) }] [{ l := feedsP m round table }, { i := ((feedsP m round table).length : Int) }] := by
          intro g
          induction g with
          | zero =>
            intro j hj
            have hj' : j = m.length := by omega
            subst hj'
            refine Runs.step rfl ?_ ?_
            · simp only [tmsFeeds, List.map_cons, List.getD_cons_zero, List.getD_cons_succ, holds_cons_iff, E.den, BiO.den, UnO.den, TeO.den, I27, decide_eq_true_eq, beq_iff_eq, Int.toNat_natCast, hx, show Int.toNat 0 = 0 from rfl, show Int.toNat 1 = 1 from rfl]
              exact ⟨by omega, by omega, by omega, q', q, by omega, by omega, by omega, Holds.nil⟩
            refine br_f ?_ ?_
            · simp only [E.den, BiO.den, UnO.den, List.getD_cons_zero, List.getD_cons_succ, decide_eq_false_iff_not]; omega
            · rw [List.take_length]
              exact next
          | succ g ih =>
            intro j hj
            have ih' := ih (j + 1) (by omega)
            have hsl := feedsA_len (m.take j) round table x
            rw [List.length_take] at hsl
            rw [take_snoc (show j < m.length by omega) [], feedsA_snoc, ← List.append_assoc, Int.natCast_add, Int.natCast_one] at ih'
            refine Runs.step rfl ?_ ?_
            · simp only [tmsFeeds, List.map_cons, List.getD_cons_zero, List.getD_cons_succ, holds_cons_iff, E.den, BiO.den, UnO.den, TeO.den, I27, decide_eq_true_eq, beq_iff_eq, Int.toNat_natCast, hx, show Int.toNat 0 = 0 from rfl, show Int.toNat 1 = 1 from rfl]
              exact ⟨by omega, by omega, by omega, q', q, by omega, by omega, by omega, Holds.nil⟩
            refine br_t ?_ ?_
            · simp only [E.den, BiO.den, UnO.den, List.getD_cons_zero, List.getD_cons_succ, decide_eq_true_eq]; omega
            simp only [StOk, E.den, BiO.den, UnO.den, TeO.den, List.map_cons, List.map_nil, List.getD_cons_zero, List.getD_cons_succ, Int.toNat_natCast, show Int.toNat 0 = 0 from rfl, show Int.toNat 1 = 1 from rfl, show Int.toNat 4 = 4 from rfl, beq_iff_eq, beq_eq_false_iff_ne, Bool.not_eq_true', Bool.not_eq_false', holds_cons_iff, holds_nil_iff, decide_eq_true_eq, decide_eq_false_iff_not, List.length_append]
            refine ⟨fun q0 => ⟨fun q1 => ⟨fun q2 => ⟨fun q3 => ⟨⟨by omega, trivial⟩, fun _ => ?_⟩, fun q3 => ?_⟩, fun q2 => ?_⟩, fun q1 => ?_⟩, fun q0 => ?_⟩
            · rw [if_pos ⟨q0, q1, q2, q3⟩] at ih'; exact ih'
            · rw [if_neg (fun h => h.2.2.2 q3), List.append_nil] at ih'; exact ih'
            · rw [if_neg (fun h => q2 h.2.2.1), List.append_nil] at ih'; exact ih'
            · rw [if_neg (fun h => q1 h.2.1), List.append_nil] at ih'; exact ih'
            · rw [if_neg (fun h => q0 h.1), List.append_nil] at ih'; exact ih'
        have := inner m.length 0 (by omega)
        rw [List.take_zero, show feedsA [] round table x = [] from rfl, List.append_nil] at this
        exact this
end
theorem vSort1 : cSort1.Valid (cx [] []) I27 := vSortOf rfl (fun _ _ => rfl)
theorem vFeeds : cFeeds.Valid (cx [] []) I27 := by
  refine re (Ctr.valid_run (C := cx [cSort1, cCompact1] [cFeeds.fn]) resp27 (glIn _ _) (allOf (.cons vSort1 (.cons vCompact1 .nil))) (by decide) (by decide) (by kernel_rfl) rfl sFeeds [.i, .i, .i, .i, .i, .l, .i, .i] [.l, .i] (by decide) ?_)
  intro ρ0 hρ hpre _
  obtain ⟨a, b, c, d, e, m, x, y, rfl⟩ := eight_m hρ
  have hp := hpre
  simp only [cFeeds, most, holds_cons_iff, E.den, BiO.den, UnO.den, I27, List.getD_cons_zero, List.getD_cons_succ, decide_eq_true_eq] at hp
  have h1 : (m.length : Int) ≤ 5000 := hp.1
  have h2 : ((feedsP m x y).length : Int) ≤ 1 := hp.2.1
  refine ⟨[{ l := feedsP m x y }, { i := ((feedsP m x y).length : Int) }], Runs.step rfl hpre ?_, rfl⟩
  exact rFeeds1 (by omega) (by omega) m.length 0 (by omega)

theorem vAw : cAw.Valid (cx [] []) I27 := by
  refine re (Ctr.valid_run (C := cx [cMake, cMost, cSets, cEq1, cLoads, cShared, cEq2, cFeeds, cIdle, cCopies] [cAw.fn]) resp27 (by intro g h hh; cases hh) (allOf (.cons vMake (.cons vMost (.cons vSets (.cons vEq1 (.cons vLoads (.cons vShared (.cons vEq2 (.cons vFeeds (.cons vIdle (.cons vCopies .nil))))))))))) (by decide) (by decide) (by kernel_rfl) rfl sAw [] [.b] (by decide) ?_)
  intro ρ0 hρ hpre _
  obtain rfl : ρ0 = [] := hρ
  exact ⟨[{ b := true }], runs_of (k := 8) (by kernel_rfl), rfl⟩
end Go.Proofs.Ytiohgpifeamkhaa
