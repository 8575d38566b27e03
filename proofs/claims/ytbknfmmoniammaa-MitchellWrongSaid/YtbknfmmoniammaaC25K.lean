/- Chapter 25: numbers in order, each once: plain laws. -/
import Derived.Test.YtbknfmmoniammaaC25R
namespace Go.Proofs.Ytbknfmmoniammaa
open Go Go.Sx Go.Proofs.C25

/-! ### lists in order are one if they have the same members -/
theorem lt_ext : ∀ {l m : List Int}, l.Pairwise (· < ·) → m.Pairwise (· < ·) → (∀ x, x ∈ l ↔ x ∈ m) → l = m
  | [], [], _, _, _ => rfl
  | [], y :: m, _, _, h => by simpa using (h y).2 (by simp)
  | x :: l, [], _, _, h => by simpa using (h x).1 (by simp)
  | x :: l, y :: m, hl, hm, h => by
    rw [List.pairwise_cons] at hl hm
    have hxy : x = y := by
      have h1 := (h x).1 (by simp)
      have h2 := (h y).2 (by simp)
      rcases List.mem_cons.1 h1 with e | e
      · exact e
      · rcases List.mem_cons.1 h2 with e' | e'
        · exact e'.symm
        · have := hm.1 x e
          have := hl.1 y e'
          omega
    subst hxy
    rw [lt_ext hl.2 hm.2 (fun z => ?_)]
    have hz := h z
    simp only [List.mem_cons] at hz
    constructor
    · intro hzl
      rcases hz.1 (Or.inr hzl) with e | e
      · subst e; have := hl.1 z hzl; omega
      · exact e
    · intro hzm
      rcases hz.2 (Or.inr hzm) with e | e
      · subst e; have := hm.1 z hzm; omega
      · exact e

theorem uniq_mem : ∀ (l : List Int) (x : Int), x ∈ uniq l ↔ x ∈ l
  | [], x => Iff.rfl
  | [y], x => Iff.rfl
  | y :: z :: l, x => by
    unfold uniq
    split
    · rename_i h
      subst h
      rw [uniq_mem (y :: l) x]
      simp
    · rw [List.mem_cons, uniq_mem (z :: l) x, List.mem_cons (b := y)]
theorem uniq_lt : ∀ (l : List Int), l.Pairwise (· ≤ ·) → (uniq l).Pairwise (· < ·)
  | [], _ => List.Pairwise.nil
  | [y], _ => by simp [uniq]
  | y :: z :: l, h => by
    rw [List.pairwise_cons] at h
    unfold uniq
    split
    · rename_i e
      subst e
      exact uniq_lt _ h.2
    · rename_i e
      rw [List.pairwise_cons]
      refine ⟨fun x hx => ?_, uniq_lt _ h.2⟩
      rw [uniq_mem] at hx
      have h1 := h.1 z (by simp)
      have h2 := List.pairwise_cons.1 h.2
      rcases List.mem_cons.1 hx with rfl | hx
      · omega
      · have := h2.1 x hx; omega
theorem sortU_mem (l : List Int) (x : Int) : x ∈ sortU l ↔ 1 ≤ x ∧ x ∈ l := by
  unfold sortU
  rw [uniq_mem, List.mem_mergeSort, List.mem_filter, decide_eq_true_eq, And.comm]
theorem sortU_lt (l : List Int) : (sortU l).Pairwise (· < ·) := by
  unfold sortU
  apply uniq_lt
  have := List.pairwise_mergeSort (le := fun x y : Int => decide (x ≤ y)) (by intro a b c; simp; omega) (by intro a b; simp; omega) (l.filter fun x => decide (1 ≤ x))
  exact this.imp (by intro a b; simp)
theorem sortU_eq {l m : List Int} (h1 : m.Pairwise (· < ·)) (h2 : ∀ x, x ∈ m ↔ 1 ≤ x ∧ x ∈ l) : sortU l = m := lt_ext (sortU_lt l) h1 (fun x => by rw [sortU_mem, h2])

/-- a number put into numbers in order, unless it is there -/
def putI (n : Int) : List Int → List Int
  | [] => [n]
  | x :: l => if x < n then x :: putI n l else if x = n then x :: l else n :: x :: l
def putAll (l : List Int) : List Int := l.foldl (fun a n => if n < 1 then a else putI n a) []
theorem putI_mem (n : Int) : ∀ (l : List Int) (x : Int), x ∈ putI n l ↔ x = n ∨ x ∈ l
  | [], x => by simp [putI]
  | y :: l, x => by
    unfold putI
    split
    · rw [List.mem_cons, putI_mem n l x, List.mem_cons]
      constructor
      · rintro (h | h | h)
        · exact Or.inr (Or.inl h)
        · exact Or.inl h
        · exact Or.inr (Or.inr h)
      · rintro (h | h | h)
        · exact Or.inr (Or.inl h)
        · exact Or.inl h
        · exact Or.inr (Or.inr h)
    · split
      · rename_i h
        subst h
        simp
      · simp
theorem putI_lt (n : Int) : ∀ (l : List Int), l.Pairwise (· < ·) → (putI n l).Pairwise (· < ·)
  | [], _ => by simp [putI]
  | y :: l, h => by
    have h' := List.pairwise_cons.1 h
    unfold putI
    split
    · rw [List.pairwise_cons]
      refine ⟨fun x hx => ?_, putI_lt n l h'.2⟩
      rcases (putI_mem n l x).1 hx with rfl | hx
      · assumption
      · exact h'.1 x hx
    · split
      · exact h
      · rw [List.pairwise_cons]
        refine ⟨fun x hx => ?_, h⟩
        rcases List.mem_cons.1 hx with rfl | hx
        · omega
        · have := h'.1 x hx; omega
theorem putAll_from : ∀ (l a : List Int), a.Pairwise (· < ·) → (l.foldl (fun a n => if n < 1 then a else putI n a) a).Pairwise (· < ·) ∧ ∀ x, x ∈ l.foldl (fun a n => if n < 1 then a else putI n a) a ↔ x ∈ a ∨ (1 ≤ x ∧ x ∈ l)
  | [], a, h => ⟨h, fun x => by simp⟩
  | n :: l, a, h => by
    rw [List.foldl_cons]
    by_cases hn : n < 1
    · rw [if_pos hn]
      obtain ⟨h1, h2⟩ := putAll_from l a h
      refine ⟨h1, fun x => ?_⟩
      rw [h2 x, List.mem_cons]
      constructor
      · rintro (q | ⟨q, q'⟩)
        · exact Or.inl q
        · exact Or.inr ⟨q, Or.inr q'⟩
      · rintro (q | ⟨q, q' | q'⟩)
        · exact Or.inl q
        · omega
        · exact Or.inr ⟨q, q'⟩
    · rw [if_neg hn]
      obtain ⟨h1, h2⟩ := putAll_from l (putI n a) (putI_lt n a h)
      refine ⟨h1, fun x => ?_⟩
      rw [h2 x, List.mem_cons, putI_mem]
      constructor
      · rintro ((q | q) | ⟨q, q'⟩)
        · exact Or.inr ⟨by omega, Or.inl q⟩
        · exact Or.inl q
        · exact Or.inr ⟨q, Or.inr q'⟩
      · rintro (q | ⟨q, q' | q'⟩)
        · exact Or.inl (Or.inr q)
        · exact Or.inl (Or.inl q')
        · exact Or.inr ⟨q, q'⟩
theorem sortU_putAll (l : List Int) : sortU l = putAll l := by
  obtain ⟨h1, h2⟩ := putAll_from l [] List.Pairwise.nil
  exact sortU_eq h1 (fun x => by rw [putAll, h2 x]; simp)

theorem nums_ones (l : List Int) : nums (ones l) = l := by
  unfold nums ones
  rw [List.map_map]
  exact List.map_id' l
theorem ones_nums {A : List (List Int)} (h : ∀ r ∈ A, r.length = 1) : ones (nums A) = A := by
  unfold nums ones
  rw [List.map_map]
  have : ∀ r ∈ A, ((fun x => [x]) ∘ fun r : List Int => r.getD 0 0) r = r := by
    intro r hr
    match r, h r hr with
    | [x], _ => rfl
  rw [List.map_congr_left this, List.map_id']
theorem sortU_len (l : List Int) : (sortU l).length ≤ l.length := by
  rw [sortU_putAll]
  unfold putAll
  have : ∀ (l a : List Int), (l.foldl (fun a n => if n < 1 then a else putI n a) a).length ≤ a.length + l.length := by
    intro l
    induction l with
    | nil => intro a; simp
    | cons n l ih =>
      intro a
      rw [List.foldl_cons, List.length_cons]
      split
      · have := ih a; omega
      · have h := ih (putI n a)
        have : (putI n a).length ≤ a.length + 1 := by
          clear ih h
          induction a with
          | nil => simp [putI]
          | cons y a ih =>
            unfold putI
            split
            · simp only [List.length_cons]; omega
            · split <;> simp
        omega
  have := this l []
  simpa using this
end Go.Proofs.Ytbknfmmoniammaa
