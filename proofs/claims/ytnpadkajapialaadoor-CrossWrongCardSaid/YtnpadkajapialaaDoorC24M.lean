/- Chapter 24: the plain laws. -/
import Derived.Test.YtnpadkajapialaaDoorC24Defs
namespace Go.Proofs.C24
open Go Go.Sx

theorem sum_neg {α : Type} (f g : α → Int) : ∀ l : List α, (∀ x ∈ l, g x = -f x) → (l.map g).sum = -(l.map f).sum
  | [], _ => rfl
  | x :: l, h => by
    rw [List.map_cons, List.map_cons, List.sum_cons, List.sum_cons, sum_neg f g l (fun y hy => h y (List.mem_cons_of_mem _ hy)), h x (List.mem_cons_self ..)]
    omega
theorem scale_pos : ∀ s ∈ scaleL, (0 : Int) < s := by decide
theorem impN_neg (d : Int) : impN (-d) = -impN d := by
  unfold impN
  refine sum_neg _ _ scaleL fun s hs => ?_
  have := scale_pos s hs
  split <;> split <;> (try split) <;> (try split) <;> omega
def negI (l : List Int) : List Int := l.map fun s => -s
theorem negI_len (l : List Int) : (negI l).length = l.length := by simp [negI]
theorem crossS_neg (l : List Int) (s : Int) : crossS (negI l) (-s) = -crossS l s := by
  unfold crossS negI
  rw [List.map_map]
  refine sum_neg _ _ l fun o _ => ?_
  show impN (-s - -o) = -impN (s - o)
  rw [show -s - -o = -(s - o) from by omega, impN_neg]
theorem gF_neg (a b : Int) : gF (-a) b = gF a b := by unfold gF; rw [Int.neg_gcd]
theorem frN_neg (a b : Int) : frN (-a) b = -frN a b := by unfold frN; rw [gF_neg, Int.neg_tdiv]
theorem frD_neg (a b : Int) : frD (-a) b = frD a b := by unfold frD; rw [gF_neg]
theorem negI_sum (l : List Int) : (negI l).sum = -l.sum := by
  have := sum_neg (fun s : Int => s) (fun s => -s) l (fun _ _ => rfl)
  rw [List.map_id'] at this
  exact this
theorem errI_neg (l : List Int) : errI (negI l) = errI l := by
  unfold errI
  rw [negI_len]
  have : ((negI l).all fun s => decide (-7600 ≤ s ∧ s ≤ 7600)) = l.all fun s => decide (-7600 ≤ s ∧ s ≤ 7600) := by
    unfold negI
    rw [List.all_map]
    congr 1
    funext s
    show decide (-7600 ≤ -s ∧ -s ≤ 7600) = decide (-7600 ≤ s ∧ s ≤ 7600)
    rw [decide_eq_decide]
    omega
  rw [this]

/-! ### sorted lists -/
def leB (x y : Int) : Bool := decide (x ≤ y)
def sortI (l : List Int) : List Int := l.mergeSort fun x y => decide (x ≤ y)
theorem sortI_perm (l : List Int) : (sortI l).Perm l := List.mergeSort_perm _ _
theorem sortI_sorted (l : List Int) : (sortI l).Pairwise (· ≤ ·) := by
  have := List.pairwise_mergeSort (le := fun x y : Int => decide (x ≤ y)) (by intro a b c; simp only [decide_eq_true_eq]; omega) (by intro a b; simp only [Bool.or_eq_true, decide_eq_true_eq]; omega) l
  exact this.imp fun h => of_decide_eq_true h
theorem sorted_unique : ∀ {l m : List Int}, l.Perm m → l.Pairwise (· ≤ ·) → m.Pairwise (· ≤ ·) → l = m
  | [], m, hp, _, _ => by rw [List.Perm.nil_eq hp]
  | x :: l, [], hp, _, _ => by have := hp.length_eq; simp at this
  | x :: l, y :: m, hp, h1, h2 => by
    rw [List.pairwise_cons] at h1 h2
    have hxy : x = y := by
      have hx : x ∈ y :: m := hp.subset (List.mem_cons_self ..)
      have hy : y ∈ x :: l := hp.symm.subset (List.mem_cons_self ..)
      rcases List.mem_cons.1 hx with h | h
      · exact h
      · rcases List.mem_cons.1 hy with h' | h'
        · exact h'.symm
        · have := h1.1 y h'; have := h2.1 x h; omega
    subst hxy
    rw [sorted_unique (List.Perm.cons_inv hp) h1.2 h2.2]
theorem sortI_of {l : List Int} (h : l.Pairwise (· ≤ ·)) : sortI l = l := sorted_unique (sortI_perm l) (sortI_sorted l) h
theorem sortI_len (l : List Int) : (sortI l).length = l.length := (sortI_perm l).length_eq
theorem sortI_neg (l : List Int) : sortI (negI l) = (negI (sortI l)).reverse := by
  refine sorted_unique ((sortI_perm _).trans ?_) (sortI_sorted _) ?_
  · refine List.Perm.trans ?_ (List.reverse_perm _).symm
    exact ((sortI_perm l).map _).symm
  · rw [List.pairwise_reverse]
    unfold negI
    rw [List.pairwise_map]
    exact (sortI_sorted l).imp fun h => by omega
theorem leftI_eq (l : List Int) (d : Int) : leftI l d = ((sortI l).drop d.toNat).take (l.length - 2 * d.toNat) := rfl
theorem mid_reverse (l : List Int) (d : Nat) (h : 2 * d ≤ l.length) : (l.reverse.drop d).take (l.length - 2 * d) = ((l.drop d).take (l.length - 2 * d)).reverse := by
  rw [List.drop_reverse, List.take_reverse, List.length_take]
  congr 1
  rw [List.drop_take]
  congr 1
  · omega
  · congr 1
    omega
theorem leftI_neg {l : List Int} {d : Int} (h : 2 * d.toNat ≤ l.length) : leftI (negI l) d = (negI (leftI l d)).reverse := by
  rw [leftI_eq, leftI_eq, sortI_neg, negI_len]
  have hl : (negI (sortI l)).length = l.length := by rw [negI_len, sortI_len]
  rw [← hl, mid_reverse _ _ (by omega), hl]
  unfold negI
  rw [List.map_take, List.map_drop]
theorem sum_reverse' : ∀ l : List Int, l.reverse.sum = l.sum
  | [] => rfl
  | x :: l => by rw [List.reverse_cons, List.sum_append, sum_reverse' l, List.sum_cons]; simp; omega
theorem meanI_neg {l : List Int} (h : 1 ≤ l.length) : meanI ((negI l).reverse) = -meanI l := by
  have hs : ((negI l).reverse).sum = -l.sum := by rw [sum_reverse', negI_sum]
  have hl : ((negI l).reverse).length = l.length := by rw [List.length_reverse, negI_len]
  have ht : tensI ((negI l).reverse) = tensI l := by
    unfold tensI
    rw [hs, hl]
    congr 2
    congr 1
    split <;> split <;> omega
  unfold meanI
  rw [ht, hs]
  by_cases h0 : l.sum = 0
  · have : tensI l = 0 := by
      unfold tensI
      rw [h0]
      have e : (2 * (if -(0 : Int) > 0 then -0 else 0) + 10 * (l.length : Int)) = 10 * (l.length : Int) := by
        rw [if_neg (by omega)]; omega
      rw [e]
      exact Int.tdiv_eq_zero_of_lt (by omega) (by omega)
    rw [this]
    split <;> split <;> omega
  · split <;> split <;> omega
theorem datE_neg (l : List Int) (d : Int) : datE (negI l) d = datE l d := by unfold datE; rw [errI_neg, negI_len]
theorem datE_0 {l : List Int} {d : Int} (h : datE l d = 0) : errI l = 0 ∧ 0 ≤ d ∧ d < ((l.length : Int) + 1).tdiv 2 := by
  unfold datE at h
  split at h
  · rename_i q; exact (q h).elim
  · rename_i q
    split at h
    · cases h
    · exact ⟨Classical.not_not.1 q, by omega, by omega⟩
theorem left_len {l : List Int} {d : Int} (h : datE l d = 0) : 2 * d.toNat < l.length ∧ (leftI l d).length = l.length - 2 * d.toNat := by
  obtain ⟨_, h0, h1⟩ := datE_0 h
  rw [Int.tdiv_eq_ediv_of_nonneg (by omega)] at h1
  refine ⟨by omega, ?_⟩
  rw [leftI_eq, List.length_take, List.length_drop, sortI_len]
  omega
theorem datV_neg (l : List Int) (d : Int) : datV (negI l) d = -datV l d := by
  unfold datV
  rw [datE_neg]
  by_cases h : datE l d = 0
  · rw [if_neg (fun q => q h), if_neg (fun q => q h)]
    have hl := left_len h
    rw [leftI_neg (by omega)]
    exact meanI_neg (by omega)
  · rw [if_pos h, if_pos h]; rfl

/-! ### the datum -/
theorem tensI_spec {l : List Int} (h : 1 ≤ l.length) : 20 * ((l.length : Int) * tensI l) ≤ 2 * (if -l.sum > l.sum then -l.sum else l.sum) + 10 * l.length ∧ 2 * (if -l.sum > l.sum then -l.sum else l.sum) + 10 * l.length < 20 * ((l.length : Int) * tensI l) + 20 * l.length ∧ 0 ≤ tensI l := by
  have hs : 0 ≤ (if -l.sum > l.sum then -l.sum else l.sum) := by split <;> omega
  generalize hS : (if -l.sum > l.sum then -l.sum else l.sum) = S at hs ⊢
  have ht : tensI l = (2 * S + 10 * (l.length : Int)) / (20 * (l.length : Int)) := by
    unfold tensI
    rw [hS, Int.tdiv_eq_ediv_of_nonneg (by omega)]
  have h1 := Int.mul_ediv_add_emod (2 * S + 10 * (l.length : Int)) (20 * (l.length : Int))
  have h2 := Int.emod_nonneg (2 * S + 10 * (l.length : Int)) (b := 20 * (l.length : Int)) (by omega)
  have h3 := Int.emod_lt_of_pos (2 * S + 10 * (l.length : Int)) (b := 20 * (l.length : Int)) (by omega)
  rw [← ht, Int.mul_assoc] at h1
  refine ⟨by omega, by omega, ?_⟩
  rw [ht]
  exact Int.ediv_nonneg (by omega) (by omega)
theorem meanI_near {l : List Int} (h : 1 ≤ l.length) : -(5 * (l.length : Int)) ≤ meanI l * l.length - l.sum ∧ meanI l * l.length - l.sum ≤ 5 * l.length ∧ (meanI l * l.length - l.sum = -(5 * (l.length : Int)) → l.sum ≤ 0) ∧ (meanI l * l.length - l.sum = 5 * (l.length : Int) → 0 ≤ l.sum) := by
  obtain ⟨h1, h2, h3⟩ := tensI_spec h
  have e : meanI l * (l.length : Int) = if l.sum < 0 then -(10 * ((l.length : Int) * tensI l)) else 10 * ((l.length : Int) * tensI l) := by
    unfold meanI
    split
    · rw [Int.mul_assoc, Int.neg_mul, Int.mul_comm (tensI l), Int.mul_neg]
    · rw [Int.mul_assoc, Int.mul_comm (tensI l)]
  rw [e]
  generalize (l.length : Int) * tensI l = X at h1 h2 ⊢
  by_cases hn : l.sum < 0
  · rw [if_pos (by omega)] at h1 h2; rw [if_pos hn]; omega
  · rw [if_neg (by omega)] at h1 h2; rw [if_neg hn]; omega
theorem meanI_tens (l : List Int) : (meanI l).tmod 10 = 0 := by
  unfold meanI
  exact Int.mul_tmod_right _ _
theorem sum_low {c : Int} : ∀ l : List Int, (∀ x ∈ l, c ≤ x) → c * l.length ≤ l.sum
  | [], _ => by simp
  | x :: l, h => by
    have := sum_low l (fun y hy => h y (List.mem_cons_of_mem _ hy))
    have := h x (List.mem_cons_self ..)
    rw [List.sum_cons, List.length_cons, Int.natCast_add, Int.natCast_one, Int.mul_add, Int.mul_one]
    omega
theorem sum_high {c : Int} : ∀ l : List Int, (∀ x ∈ l, x ≤ c) → l.sum ≤ c * l.length
  | [], _ => by simp
  | x :: l, h => by
    have := sum_high l (fun y hy => h y (List.mem_cons_of_mem _ hy))
    have := h x (List.mem_cons_self ..)
    rw [List.sum_cons, List.length_cons, Int.natCast_add, Int.natCast_one, Int.mul_add, Int.mul_one]
    omega
theorem meanI_in {l : List Int} (h : 1 ≤ l.length) {a b : Int} (ha : ∀ x ∈ l, a ≤ x) (hb : ∀ x ∈ l, x ≤ b) : a - 9 ≤ meanI l ∧ meanI l ≤ b + 9 := by
  obtain ⟨h1, h2, _, _⟩ := meanI_near h
  have h3 := sum_low l ha
  have h4 := sum_high l hb
  constructor
  · refine Classical.byContradiction fun q => ?_
    have : meanI l * (l.length : Int) ≤ (a - 10) * l.length := Int.mul_le_mul_of_nonneg_right (by omega) (by omega)
    rw [Int.sub_mul] at this
    omega
  · refine Classical.byContradiction fun q => ?_
    have : (b + 10) * (l.length : Int) ≤ meanI l * l.length := Int.mul_le_mul_of_nonneg_right (by omega) (by omega)
    rw [Int.add_mul] at this
    omega

/-! ### scores -/
theorem scoreI_in (n : Int) : -7600 ≤ scoreI n ∧ scoreI n ≤ 7600 := by
  unfold scoreI
  have h1 : -7600 ≤ n.tmod 7601 ∧ n.tmod 7601 ≤ 7600 := by
    rcases Int.le_total 0 n with h | h
    · rw [Int.tmod_eq_emod_of_nonneg h]; omega
    · have e : n.tmod 7601 = -((-n).tmod 7601) := by rw [Int.neg_tmod, Int.neg_neg]
      rw [e, Int.tmod_eq_emod_of_nonneg (show 0 ≤ -n by omega)]; omega
  generalize n.tmod 7601 = m at h1 ⊢
  split
  · rcases Int.le_total 0 m with h | h
    · rw [Int.tdiv_eq_ediv_of_nonneg h]; omega
    · have e : m.tdiv 10 = -((-m).tdiv 10) := by rw [Int.neg_tdiv, Int.neg_neg]
      rw [e, Int.tdiv_eq_ediv_of_nonneg (show 0 ≤ -m by omega)]; omega
  · exact h1
theorem scoresI_len (l : List Int) : (scoresI l).length ≤ 24 := by
  unfold scoresI; rw [List.length_map, List.length_take]; omega
theorem scoresI_in {l : List Int} {x : Int} (h : x ∈ scoresI l) : -7600 ≤ x ∧ x ≤ 7600 := by
  unfold scoresI at h
  obtain ⟨n, _, rfl⟩ := List.mem_map.1 h
  exact scoreI_in n
theorem errI_ok {l : List Int} (h : l.length ≤ 24) (hx : ∀ x ∈ l, -7600 ≤ x ∧ x ≤ 7600) : errI l = 0 := by
  unfold errI
  rw [if_neg (by omega), if_pos (List.all_eq_true.2 fun x hm => decide_eq_true (hx x hm))]
theorem scoresI_err (l : List Int) : errI (scoresI l) = 0 := errI_ok (scoresI_len l) fun _ h => scoresI_in h
theorem errI_bad {l : List Int} (h : l.length ≤ 24) {x : Int} (hm : x ∈ l) (hx : x < -7600 ∨ 7600 < x) : errI l = 240 := by
  unfold errI
  rw [if_neg (by omega), if_neg]
  intro q
  have := of_decide_eq_true (List.all_eq_true.1 q x hm)
  omega
theorem errI_many {l : List Int} (h : 24 < l.length) : errI l = 5 := by unfold errI; rw [if_pos h]
theorem cross_bad {l : List Int} {e : Int} (h : errI l = e) (he : e ≠ 0) : crossI l = [] := by unfold crossI; rw [if_pos (by rw [h]; exact he)]
theorem plain_bad {l : List Int} {e : Int} (h : errI l = e) (he : e ≠ 0) : plainI l = [] := by unfold plainI; rw [if_pos (by rw [h]; exact he)]
theorem datE_bad {l : List Int} {e : Int} (h : errI l = e) (he : e ≠ 0) (d : Int) : datE l d = e := by unfold datE; rw [if_pos (by rw [h]; exact he), h]
theorem datE_far {l : List Int} (h : errI l = 0) {d : Int} (hd : d < 0 ∨ ((l.length : Int) + 1).tdiv 2 ≤ d) : datE l d = 2 := by unfold datE; rw [if_neg (fun q => q h), if_pos hd]
theorem datV_bad {l : List Int} {d e : Int} (h : datE l d = e) (he : e ≠ 0) : datV l d = 0 ∧ butI l d = [] :=
  ⟨by unfold datV; rw [if_pos (by rw [h]; exact he)], by unfold butI; rw [if_pos (by rw [h]; exact he)]⟩
theorem datE_ok {l : List Int} (h : errI l = 0) {d : Int} (h0 : 0 ≤ d) (h1 : d < ((l.length : Int) + 1).tdiv 2) : datE l d = 0 := by
  unfold datE; rw [if_neg (fun q => q h), if_neg (by omega)]

/-! ### insertion -/
theorem ins_step {P : List Int} {y : Int} {Q : List Int} (h : (P ++ [y] ++ Q).Pairwise (· ≤ ·)) : (P ++ (y :: Q)).Pairwise (· ≤ ·) := by
  rw [List.append_assoc] at h; exact h
theorem ins_done {P Q : List Int} {x : Int} (h : (P ++ Q).Pairwise (· ≤ ·)) (hp : P = [] ∨ ∃ P' y, P = P' ++ [y] ∧ y ≤ x) (hq : ∀ y ∈ Q, x ≤ y) : (P ++ x :: Q).Pairwise (· ≤ ·) := by
  rw [List.pairwise_append] at h ⊢
  obtain ⟨h1, h2, h3⟩ := h
  refine ⟨h1, List.pairwise_cons.2 ⟨hq, h2⟩, fun a ha b hb => ?_⟩
  rcases List.mem_cons.1 hb with rfl | hb
  · rcases hp with rfl | ⟨P', y, rfl, hy⟩
    · cases ha
    · rcases List.mem_append.1 ha with ha | ha
      · have := (List.pairwise_append.1 h1).2.2 a ha y (List.mem_singleton.2 rfl)
        omega
      · rw [List.mem_singleton.1 ha]; exact hy
  · exact h3 a ha b hb
end Go.Proofs.C24
